/- The reference's numbers with signs: without zeros at the end. -/
import Derived.Test.YtdfklcmiagmgaaaXR2
namespace Go.Proofs.Ytdfklcmiagmgaaa
set_option linter.all false
open Go.RowKit Go.Shelf Go.WideNum
/-- A number with its sign is returned. -/
def SRet (w : World) (s : Bool) (n : Nat) (e : Ending) (w' : World) : Prop := ∃ v, e = .returned (.agg #[.bool s, v]) ∧ World.numH w' v n ∧ Below w.heap.size w w'
/-- The same, the words being new. -/
def SRetO (w : World) (s : Bool) (n : Nat) (e : Ending) (w' : World) : Prop := ∃ v, e = .returned (.agg #[.bool s, v]) ∧ w'.owns w.heap.size 47 1 v (hw n).length ((hw n).map u32V) ∧ Below w.heap.size w w'
theorem SRetO.ret {w w' : World} {s : Bool} {n : Nat} {e : Ending} (h : SRetO w s n e w') : SRet w s n e w' := by
  obtain ⟨v, h1, h2, h3⟩ := h
  exact ⟨v, h1, h2.reads, h3⟩
theorem num_cells {W : World} {g : Nat} {s : Bool} {v : Value} {T : TypeId} (h : W.heap[g]? = some (.cells #[.bool s, v] T)) :
    W.cell? ⟨g, 0, none⟩ = some (.bool s) ∧ W.cell? ⟨g, 1, none⟩ = some v ∧ W.frozen? ⟨g, 0, none⟩ = false ∧ W.frozen? ⟨g, 1, none⟩ = false := by
  refine ⟨by rw [cell_of_row W g 0 _ T (0, 0) h]; rfl, by rw [cell_of_row W g 1 _ T (0, 0) h]; rfl, by simp [World.frozen?, h], by simp [World.frozen?, h]⟩
theorem num_set {W : World} {g : Nat} {u0 u1 : Value} {T : TypeId} (h : W.heap[g]? = some (.cells #[u0, u1] T)) (x y : Value) :
    ((W.setCell ⟨g, 0, none⟩ x).setCell ⟨g, 1, none⟩ y).heap[g]? = some (.cells #[x, y] T) := by
  simp [World.setCell, Array.getElem?_modify, h]
/-- No cell of these is a number. -/
def noInt (cs : Array Value) : Prop := ∀ u ∈ cs, ∀ z, u ≠ .int .u32 z
theorem reads_other {W W' : World} {B p : Nat} {v : Value} {l : List Nat} {cs : Array Value} {T : TypeId} (h : W.reads B v (l.map u32V)) (hp : W.heap[p]? = some (.cells cs T)) (hcs : noInt cs) (hW : ∀ b, b ≠ p → W'.heap[b]? = W.heap[b]?) : W'.reads B v (l.map u32V) := by
  obtain ⟨a, cap, hv, hn, hz, hmx, hc⟩ := h
  refine ⟨a, cap, hv, hn, hz, hmx, fun j u hj => ?_⟩
  obtain ⟨b, off, ha, hB, hcell⟩ := hc j u hj
  refine ⟨b, off, ha, hB, ?_⟩
  have hne : b ≠ p := by
    rintro rfl
    rw [cell_of_row W _ _ _ _ (0, 0) hp] at hcell
    obtain ⟨z, _, rfl⟩ := List.mem_map.1 (List.mem_of_getElem? hj)
    exact hcs _ (Array.mem_of_getElem? hcell) _ rfl
  exact (World.cell?_of_block (a := ⟨b, off + j, none⟩) (hW b hne)).trans hcell
theorem noInt_num (s : Bool) (a : Option Addr) (n c : Nat) : noInt #[.bool s, .slice a n c] := by
  intro u hu z e
  subst e
  simp at hu
theorem two_other {W : World} {p : Nat} (x y : Value) : ∀ b, b ≠ p → ((W.setCell ⟨p, 0, none⟩ x).setCell ⟨p, 1, none⟩ y).heap[b]? = W.heap[b]? := by
  intro b h
  simp [World.setCell, Array.getElem?_modify, h, h.symm, Ne.symm h]
theorem numH_set {W : World} {p n : Nat} {v : Value} {s : Bool} {a : Option Addr} {k c : Nat} {T : TypeId} (h : World.numH W v n) (hp : W.heap[p]? = some (.cells #[.bool s, .slice a k c] T)) (x y : Value) :
    World.numH ((W.setCell ⟨p, 0, none⟩ x).setCell ⟨p, 1, none⟩ y) v n := by
  have h1 := reads_other h hp (noInt_num s a k c) (two_other x y)
  have e : ((W.setCell ⟨p, 0, none⟩ x).setCell ⟨p, 1, none⟩ y).heap.size = W.heap.size := by simp
  show World.reads _ _ _ _
  rw [e]; exact h1
theorem rawH_words {w : World} {v : Value} {n L : Nat} (h : World.rawH w v n L) : ∃ (a : Option Addr) (c : Nat), v = .slice a L c ∧ L ≤ c ∧ c ≤ maxLen ∧
    ∀ k, k < L → ∃ b off, a = some ⟨b, off, none⟩ ∧ b < w.heap.size ∧ w.cell? ⟨b, off + k, none⟩ = some (.int .u32 (dig 65536 n k : Int)) := by
  have h : w.reads _ _ _ := h
  obtain ⟨a, c, rfl, hc, hm, hs⟩ := reads_u32 h
  simp only [List.length_map, List.length_range] at hc ⊢
  exact ⟨a, c, rfl, hc, hm, fun k hk => hs k _ (by simp [hk])⟩
theorem hw_top {n k : Nat} (h : (hw n).length = k + 1) : dig 65536 n k ≠ 0 := by
  have h1 := words_trimmed (B := 65536) (by omega) n n (Nat.le_refl _)
  have h2 : (hw n).getLast? = some (dig 65536 n k) := by
    rw [List.getLast?_eq_getElem?, h, Nat.add_sub_cancel]
    exact hw_get n k (by omega)
  exact h1 _ h2
theorem rawH_take {w : World} {a : Option Addr} {n L c M : Nat} (h : World.rawH w (.slice a L c) n L) (hM : M = (hw n).length) (hML : M ≤ L) : World.numH w (.slice a M c) n := by
  subst hM
  obtain ⟨a', c', e, hn, hc, hm, hs⟩ := h
  injection e with e1 _ e3
  subst e1 e3
  simp only [List.length_map, List.length_range] at hc
  refine ⟨a, c, by simp, hn, by simp; omega, hm, fun j u hj => ?_⟩
  rw [List.getElem?_map] at hj
  rcases Nat.lt_or_ge j (hw n).length with h1 | h1
  · rw [hw_get n j h1] at hj
    refine hs j u ?_
    rw [List.getElem?_map, List.getElem?_map, List.getElem?_range (by omega)]
    exact hj
  · rw [List.getElem?_eq_none h1] at hj; cases hj
set_option maxRecDepth 100000 in
set_option maxHeartbeats 8000000 in
theorem htrim_own (s : Bool) (n L : Nat) (hn : n < 65536 ^ L) (hL : L ≤ 10000) (v : Value) (w : World) (hv : World.rawH w v n L) :
    Calls Try.prog 62 #[.agg #[.bool s, v]] w (SRetO w (s && decide (n ≠ 0)) n) := by
  obtain ⟨i0, hi0, hiz, hiz1, hizb⟩ := info_parts infoU32
  have HV : Hid (World.rawH w v n L) := hv
  obtain ⟨a, c, rfl, hc, hm, hs⟩ := rawH_words hv
  clear hv
  have hM := hw_len_le hn
  have hZ : decide (n ≠ 0) = decide (0 < (hw n).length) := by
    have := words_len0 (B := 65536) (by omega) n
    unfold hw
    congr 1
    apply propext
    omega
  rw [hZ]
  obtain ⟨M, eM⟩ : ∃ M, M = (hw n).length := ⟨_, rfl⟩
  rw [← eM] at hM ⊢
  have HE := Lib.hid eM
  have HS := Lib.hid hs
  obtain ⟨S, hS⟩ : ∃ S, S = (s && decide (0 < M)) := ⟨_, rfl⟩
  rw [← hS]
  have HSS := Lib.hid hS
  have hc' : (L : Int) ≤ (c : Int) := by omega
  have HMX := Lib.hid hm
  clear hS hs hZ eM hn hc hm
  obtain ⟨HPOST, hpost⟩ : ∃ R, R = SRetO w S n := ⟨_, rfl⟩
  rw [← hpost]
  have HP := Lib.hid hpost
  clear hpost
  obtain ⟨W0, hW0⟩ : ∃ W0, W0 = (w.alloc (.cells #[.bool s, .slice a L c] 63)).alloc (.cells #[.bool false, .slice none 0 0] 63) := ⟨_, rfl⟩
  have g0 : W0.heap[w.heap.size]? = some (.cells #[.bool s, .slice a L c] 63) := by rw [hW0, Below.heap_alloc _ _ _ (by simp)]; exact heap_alloc_new w _
  have g1 : W0.heap[w.heap.size + 1]? = some (.cells #[.bool false, .slice none 0 0] 63) := by rw [hW0]; exact alloc_last _ _ (by simp)
  have hb0 : Below w.heap.size w W0 := by rw [hW0]; exact (((Below.refl _ w).alloc (Nat.le_refl _) _).alloc (by simp) _)
  have hz0 : W0.heap.size = w.heap.size + 1 + 1 := by rw [hW0]; simp
  have HB0 := Lib.hid hb0
  have HG1 := Lib.hid g1
  obtain ⟨c00, c01, f00, f01⟩ := num_cells g0
  have HZ0 := Lib.hid hz0
  have HW0 := Lib.hid hW0
  clear hb0 g0 g1 hz0 hW0
  go_enter Try.func62, Try.ntmps62
  go_upto_region 1 with (fail)
  rw [← HW0.out]
  go_wp2_with fail
  go_loop [3] (fun kv => ∃ k : Nat, M ≤ k ∧ k ≤ L ∧ kv = .int .i64 (k : Int)) (fun kv => (intOf kv).toNat)
  case atStart => exact ⟨L, hM, Nat.le_refl _, rfl⟩
  case round =>
    obtain ⟨k, hk1, hk2, rfl⟩ := hrel
    by_cases hlt : M < k
    · obtain ⟨j, rfl⟩ : ∃ j, k = j + 1 := ⟨k - 1, by omega⟩
      have hz : dig 65536 n j = 0 := hw_high n j (by rw [← HE.out]; omega)
      obtain ⟨b, off, rfl, hbl, hx0⟩ := HS.out j (by omega)
      rw [hz] at hx0
      have hx : W0.cell? ⟨b, off + j, none⟩ = some (.int .u32 0) := (HB0.out.cell (p := ⟨b, off + j, none⟩) hbl).trans hx0
      clear hx0 hz
      go_wp2_with fail
      go_round
      case rel => exact ⟨j, by omega, by omega, by go_num⟩
      case measure => simp [intOf]
    · obtain rfl : k = M := by omega
      have hpost2 : Hid (∀ (v' : Value) (w5 : World), w5.owns w.heap.size 47 1 v' (0 + ((hw n).map u32V).length) ([] ++ (hw n).map u32V) → World.numH w5 v' n) := fun v' w5 h => by
        have := h.reads
        rwa [List.nil_append] at this
      have hread : Hid (∀ W : World, Below w.heap.size w W → World.numH W (.slice a k c) n) := fun W hb => numH_below (rawH_take HV.out HE.out hk2) hb
      have hstop : k = 0 ∨ ∃ (j x b off : Nat), k = j + 1 ∧ x ≠ 0 ∧ a = some ⟨b, off, none⟩ ∧ W0.cell? ⟨b, off + j, none⟩ = some (.int .u32 (x : Int)) := by
        rcases Nat.eq_zero_or_pos k with h0 | h0
        · exact .inl h0
        · obtain ⟨j, rfl⟩ : ∃ j, k = j + 1 := ⟨k - 1, by omega⟩
          obtain ⟨b, off, e1, hbl, hx0⟩ := HS.out j (by omega)
          exact .inr ⟨j, _, b, off, rfl, hw_top HE.out.symm, e1, (HB0.out.cell (p := ⟨b, off + j, none⟩) hbl).trans hx0⟩
      have hz2 := HZ0.out
      have hk0 : (0 : Int) ≤ (k : Int) := by omega
      have hkc : (k : Int) ≤ (c : Int) := by omega
      have hwz : w.heap.size < W0.heap.size := by omega
      have HO : Hid ((W0.alloc (.cells #[] 47)).drew.owns W0.heap.size 47 1 (.slice (some ⟨W0.heap.size, 0, none⟩) 0 0) 0 []) := ⟨rfl, .inr ⟨W0.heap.size, 0, #[], (0, 0), rfl, Nat.le_refl _, heap_alloc_new W0 _, okFz_zero _, Nat.le_refl _, Nat.zero_le _, rfl, rfl⟩⟩
      have HBD : Hid (Below W0.heap.size W0 (W0.alloc (.cells #[] 47)).drew) := ((Below.refl W0.heap.size W0).alloc (Nat.le_refl _) _).drew
      have HBA : Hid (Below w.heap.size w (W0.alloc (.cells #[] 47)).drew) := (HB0.out.alloc (by omega) _).drew
      have HBS : Hid (W0.heap.size ≤ (W0.alloc (.cells #[] 47)).drew.heap.size) := HBD.out.size
      have HK0 := Lib.hid (HBD.out.cell (p := ⟨w.heap.size, 0, none⟩) hwz)
      have HK1 := Lib.hid (HBD.out.cell (p := ⟨w.heap.size, 1, none⟩) hwz)
      have HL1 : Hid (0 + ((hw n).map u32V).length ≤ maxLen) := by show _ ≤ _; rw [List.length_map, ← HE.out]; unfold maxLen; omega
      have HL2 : Hid ((0 + ((hw n).map u32V).length) * 4 ≤ 140737488355328) := by show _ ≤ _; rw [List.length_map, ← HE.out]; omega
      have HR := hread
      have HF : Hid (∀ (v' : Value) (w6 : World), w6.owns W0.heap.size 47 1 v' (0 + ((hw n).map u32V).length) ([] ++ (hw n).map u32V) → World.grownBy (W0.alloc (.cells #[] 47)).drew w6 (Value.slice (some ⟨W0.heap.size, 0, none⟩) 0 0).ownBlock →
          ∃ a6 n6 c6, v' = .slice a6 n6 c6 ∧ Below w.heap.size w w6 ∧ w6.owns W0.heap.size 47 1 v' (hw n).length ((hw n).map u32V) ∧ w6.cell? ⟨w.heap.size, 0, none⟩ = W0.cell? ⟨w.heap.size, 0, none⟩ ∧ w6.cell? ⟨w.heap.size, 1, none⟩ = W0.cell? ⟨w.heap.size, 1, none⟩ ∧ w6.heap[w.heap.size + 1]? = some (.cells #[.bool false, .slice none 0 0] 63)) := by
        intro v' w6 ho hg
        have hb := HBD.out.trans (below_grown HO.out hg W0.heap.size (Nat.le_refl _) HBS.out)
        have hr : w6.owns W0.heap.size 47 1 v' (hw n).length ((hw n).map u32V) := by
          rw [List.nil_append, List.length_map, Nat.zero_add] at ho
          exact ho
        obtain ⟨a6, c6, e6⟩ := reads_len hr.reads
        exact ⟨a6, _, c6, e6, HB0.out.trans (hb.mono (by omega)), hr, hb.cell (p := ⟨w.heap.size, 0, none⟩) hwz, hb.cell (p := ⟨w.heap.size, 1, none⟩) hwz, (hb.block _ (by omega)).trans HG1.out⟩
      have HZ1 : Hid (w.heap.size + 1 < W0.heap.size) := by show _ < _; omega
      have HZ2 : Hid (w.heap.size ≤ W0.heap.size) := by show _ ≤ _; omega
      clear hread hz2 hwz
      rcases hstop with h0 | ⟨j, x, b, off, hj, hx, rfl, hcell⟩
      · subst h0
        have hSt : Hid (S = false) := by show _ = _; rw [HSS.out]; simp
        have t0 : ¬ (0 : Int) < ((0 : Nat) : Int) := by omega
        clear hk1
        go_wp2_with fail
        cases s with
        | true =>
          refine wp_region_line (fun w' => w'.cell? ⟨w.heap.size, 0, none⟩ = some (.bool true) ∧ w'.cell? ⟨w.heap.size, 1, none⟩ = some (.slice a L c)) 13 (by kernel_rfl) ⟨c00, c01⟩ (fun hHeld => ?_)
          refine wpAnyT_take 0 (v := ?_) (by kernel_rfl) rfl (by kernel_rfl) (by decide) rfl (by kernel_rfl) (by kernel_rfl) (fun _ _ _ h => h) (Or.inl ⟨by rfl, ?_⟩) (by assumption) ?_
          rotate_left
          · (intro wq hSq; (try dsimp only at hSq); go_simp; try with_reducible rfl)
          try simp only [Act.put, List.setIfInBounds_toArray, List.set_cons_zero, List.set_cons_succ]
          refine wpAnyT_take 1 (v := ?_) (by kernel_rfl) rfl (by kernel_rfl) (by decide) rfl (by kernel_rfl) (by kernel_rfl) (fun _ _ _ h => h) (Or.inl ⟨by rfl, ?_⟩) (by assumption) ?_
          rotate_left
          · (intro wq hSq; (try dsimp only at hSq); go_simp; try with_reducible rfl)
          try simp only [Act.put, List.setIfInBounds_toArray, List.set_cons_zero, List.set_cons_succ]
          refine wpAnyT_take 2 (v := ?_) (by kernel_rfl) rfl (by kernel_rfl) (by decide) rfl (by kernel_rfl) (by kernel_rfl) (fun _ _ _ h => h) (Or.inl ⟨by rfl, ?_⟩) (by assumption) ?_
          rotate_left
          · (intro wq hSq; (try dsimp only at hSq); go_simp; try with_reducible rfl)
          try simp only [Act.put, List.setIfInBounds_toArray, List.set_cons_zero, List.set_cons_succ]
          refine wpAnyT_take 3 (v := ?_) (by kernel_rfl) rfl (by kernel_rfl) (by decide) rfl (by kernel_rfl) (by kernel_rfl) (fun _ _ _ h => h) (Or.inl ⟨by rfl, ?_⟩) (by assumption) ?_
          rotate_left
          · (intro wq hSq; (try dsimp only at hSq); go_simp; try with_reducible rfl)
          try simp only [Act.put, List.setIfInBounds_toArray, List.set_cons_zero, List.set_cons_succ]
          refine wpAnyT_take 4 (v := ?_) (by kernel_rfl) rfl (by kernel_rfl) (by decide) rfl (by kernel_rfl) (by kernel_rfl) (fun _ _ _ h => h) (Or.inl ⟨by rfl, ?_⟩) (by assumption) ?_
          rotate_left
          · (intro wq hSq; (try dsimp only at hSq); go_simp; try with_reducible rfl)
          try simp only [Act.put, List.setIfInBounds_toArray, List.set_cons_zero, List.set_cons_succ]
          refine wpAnyT_take 5 (v := ?_) (by kernel_rfl) rfl (by kernel_rfl) (by decide) rfl (by kernel_rfl) (by kernel_rfl) (fun _ _ _ h => h) (Or.inl ⟨by rfl, ?_⟩) (by assumption) ?_
          rotate_left
          · (intro wq hSq; (try dsimp only at hSq); go_simp; try with_reducible rfl)
          try simp only [Act.put, List.setIfInBounds_toArray, List.set_cons_zero, List.set_cons_succ]
          refine wpAnyT_take 7 (v := ?_) (by kernel_rfl) rfl (by kernel_rfl) (by decide) rfl (by kernel_rfl) (by kernel_rfl) (fun _ _ _ h => h) (Or.inl ⟨by rfl, ?_⟩) (by assumption) ?_
          rotate_left
          · (intro wq hSq; (try dsimp only at hSq); go_simp; try with_reducible rfl)
          try simp only [Act.put, List.setIfInBounds_toArray, List.set_cons_zero, List.set_cons_succ]
          refine wpAnyT_take 8 (v := ?_) (by kernel_rfl) rfl (by kernel_rfl) (by decide) rfl (by kernel_rfl) (by kernel_rfl) (fun _ _ _ h => h) (Or.inl ⟨by rfl, ?_⟩) (by assumption) ?_
          rotate_left
          · (intro wq hSq; (try dsimp only at hSq); go_simp; try with_reducible rfl)
          try simp only [Act.put, List.setIfInBounds_toArray, List.set_cons_zero, List.set_cons_succ]
          refine wpAnyT_take 9 (v := ?_) (by kernel_rfl) rfl (by kernel_rfl) (by decide) rfl (by kernel_rfl) (by kernel_rfl) (fun _ _ _ h => h) (Or.inl ⟨by rfl, ?_⟩) (by assumption) ?_
          rotate_left
          · (intro wq hSq; (try dsimp only at hSq); go_simp; try with_reducible rfl)
          try simp only [Act.put, List.setIfInBounds_toArray, List.set_cons_zero, List.set_cons_succ]
          refine wpAnyT_take 10 (v := ?_) (by kernel_rfl) rfl (by kernel_rfl) (by decide) rfl (by kernel_rfl) (by kernel_rfl) (fun _ _ _ h => h) (Or.inl ⟨by rfl, ?_⟩) (by assumption) ?_
          rotate_left
          · (intro wq hSq; (try dsimp only at hSq); go_simp; try with_reducible rfl)
          try simp only [Act.put, List.setIfInBounds_toArray, List.set_cons_zero, List.set_cons_succ]
          refine wpAnyT_step 6 (by kernel_rfl) rfl (fun K hK => ?_)
          go_simp
          refine hK.out _ _ ⟨HK0.out.trans c00, HK1.out.trans c01⟩ (fun hHeld2 => ?_)
          clear hK K hHeld
          try simp only [Act.put, List.setIfInBounds_toArray, List.set_cons_zero, List.set_cons_succ]
          refine wpAnyT_step 11 (by kernel_rfl) rfl (fun K hK => ?_)
          refine step_append_reads (by rfl) (.tmp 26) (.tmp 30) 57 (by rfl) W0.heap.size 47 i0 (.int .u32 0) 4 Try.underlying57 hi0 hiz hiz1 hizb rfl (.slice (some ⟨W0.heap.size, 0, none⟩) 0 0) 0 [] (by rfl) HO.out _ (.slice a 0 c) ((hw n).map u32V) (by rfl) (HR.out _ HBA.out) (one_u32 _) HL1.out HL2.out HBS.out ?_
          intro v6 w6 hown6 hg6
          obtain ⟨a6, n6, c6, rfl, hb6, hn6, hk0, hk1, hg16⟩ := HF.out v6 w6 hown6 hg6
          clear hown6 hg6
          refine hK.out _ _ ⟨hk0.trans c00, hk1.trans c01⟩ (fun hHeld3 => ?_)
          have HB6 := Lib.hid hb6
          have HN6 := Lib.hid hn6
          have HG6 := Lib.hid hg16
          clear hb6 hn6 hg16 hk0 hk1
          clear hK K hHeld2
          try simp only [Act.put, List.setIfInBounds_toArray, List.set_cons_zero, List.set_cons_succ]
          refine wpAnyT_take 12 (v := ?_) (by kernel_rfl) rfl (by kernel_rfl) (by decide) rfl (by kernel_rfl) (by kernel_rfl) (fun _ _ _ h => h) (Or.inl ⟨by rfl, ?_⟩) (by assumption) ?_
          rotate_left
          · (intro wq hSq; (try dsimp only at hSq); go_simp; try with_reducible rfl)
          try simp only [Act.put, List.setIfInBounds_toArray, List.set_cons_zero, List.set_cons_succ]
          refine wpAnyT_last (by kernel_rfl) (by kernel_rfl) rfl (fun K hK => ?_)
          obtain ⟨d0, d1, fz0, fz1⟩ := num_cells HG6.out
          go_simp
          refine hK.out _ _ ?_
          clear hK K hHeld3 d0 d1 fz0 fz1
          have m2 := num_set HG6.out (.bool false) (.slice a6 n6 c6)
          have hb9 : Below w.heap.size w ((w6.setCell ⟨w.heap.size + 1, 0, none⟩ (.bool false)).setCell ⟨w.heap.size + 1, 1, none⟩ (.slice a6 n6 c6)) := (HB6.out.setCell (by simp) _).setCell (by simp) _
          have hn9 : World.owns ((w6.setCell ⟨w.heap.size + 1, 0, none⟩ (.bool false)).setCell ⟨w.heap.size + 1, 1, none⟩ (.slice a6 n6 c6)) w.heap.size 47 1 (.slice a6 n6 c6) (hw n).length ((hw n).map u32V) := ((World.owns.setCell HN6.out HZ1.out _).setCell HZ1.out _).mono HZ2.out
          obtain ⟨d20, d21, -, -⟩ := num_cells m2
          clear m2
          generalize (w6.setCell ⟨w.heap.size + 1, 0, none⟩ (.bool false)).setCell ⟨w.heap.size + 1, 1, none⟩ (.slice a6 n6 c6) = W9 at d20 d21 hb9 hn9 ⊢
          have HB9 := Lib.hid hb9
          have HN9 := Lib.hid hn9
          clear hb9 hn9
          go_wp2
          rw [HP.out]
          exact bodyPost_ret (v := .agg #[.bool false, .slice a6 n6 c6]) (by simp [results, Try.results62, go_sem, d20, d21]) rfl ⟨.slice a6 n6 c6, by rw [hSt.out], HN9.out, HB9.out⟩
        | false =>
          refine wp_region_line (fun w' => w'.cell? ⟨w.heap.size, 0, none⟩ = some (.bool false) ∧ w'.cell? ⟨w.heap.size, 1, none⟩ = some (.slice a L c)) 13 (by kernel_rfl) ⟨c00, c01⟩ (fun hHeld => ?_)
          refine wpAnyT_take 0 (v := ?_) (by kernel_rfl) rfl (by kernel_rfl) (by decide) rfl (by kernel_rfl) (by kernel_rfl) (fun _ _ _ h => h) (Or.inl ⟨by rfl, ?_⟩) (by assumption) ?_
          rotate_left
          · (intro wq hSq; (try dsimp only at hSq); go_simp; try with_reducible rfl)
          try simp only [Act.put, List.setIfInBounds_toArray, List.set_cons_zero, List.set_cons_succ]
          refine wpAnyT_take 1 (v := ?_) (by kernel_rfl) rfl (by kernel_rfl) (by decide) rfl (by kernel_rfl) (by kernel_rfl) (fun _ _ _ h => h) (Or.inl ⟨by rfl, ?_⟩) (by assumption) ?_
          rotate_left
          · (intro wq hSq; (try dsimp only at hSq); go_simp; try with_reducible rfl)
          try simp only [Act.put, List.setIfInBounds_toArray, List.set_cons_zero, List.set_cons_succ]
          refine wpAnyT_take 2 (v := ?_) (by kernel_rfl) rfl (by kernel_rfl) (by decide) rfl (by kernel_rfl) (by kernel_rfl) (fun _ _ _ h => h) (Or.inl ⟨by rfl, ?_⟩) (by assumption) ?_
          rotate_left
          · (intro wq hSq; (try dsimp only at hSq); go_simp; try with_reducible rfl)
          try simp only [Act.put, List.setIfInBounds_toArray, List.set_cons_zero, List.set_cons_succ]
          refine wpAnyT_take 3 (v := undef) (by kernel_rfl) rfl (by kernel_rfl) (by decide) rfl (by kernel_rfl) (by kernel_rfl) (fun _ _ _ h => h) (Or.inr ⟨by rfl, rfl⟩) (by assumption) ?_
          try simp only [Act.put, List.setIfInBounds_toArray, List.set_cons_zero, List.set_cons_succ]
          refine wpAnyT_take 4 (v := undef) (by kernel_rfl) rfl (by kernel_rfl) (by decide) rfl (by kernel_rfl) (by kernel_rfl) (fun _ _ _ h => h) (Or.inr ⟨by rfl, rfl⟩) (by assumption) ?_
          try simp only [Act.put, List.setIfInBounds_toArray, List.set_cons_zero, List.set_cons_succ]
          refine wpAnyT_take 5 (v := ?_) (by kernel_rfl) rfl (by kernel_rfl) (by decide) rfl (by kernel_rfl) (by kernel_rfl) (fun _ _ _ h => h) (Or.inl ⟨by rfl, ?_⟩) (by assumption) ?_
          rotate_left
          · (intro wq hSq; (try dsimp only at hSq); go_simp; try with_reducible rfl)
          try simp only [Act.put, List.setIfInBounds_toArray, List.set_cons_zero, List.set_cons_succ]
          refine wpAnyT_take 7 (v := ?_) (by kernel_rfl) rfl (by kernel_rfl) (by decide) rfl (by kernel_rfl) (by kernel_rfl) (fun _ _ _ h => h) (Or.inl ⟨by rfl, ?_⟩) (by assumption) ?_
          rotate_left
          · (intro wq hSq; (try dsimp only at hSq); go_simp; try with_reducible rfl)
          try simp only [Act.put, List.setIfInBounds_toArray, List.set_cons_zero, List.set_cons_succ]
          refine wpAnyT_take 8 (v := ?_) (by kernel_rfl) rfl (by kernel_rfl) (by decide) rfl (by kernel_rfl) (by kernel_rfl) (fun _ _ _ h => h) (Or.inl ⟨by rfl, ?_⟩) (by assumption) ?_
          rotate_left
          · (intro wq hSq; (try dsimp only at hSq); go_simp; try with_reducible rfl)
          try simp only [Act.put, List.setIfInBounds_toArray, List.set_cons_zero, List.set_cons_succ]
          refine wpAnyT_take 9 (v := ?_) (by kernel_rfl) rfl (by kernel_rfl) (by decide) rfl (by kernel_rfl) (by kernel_rfl) (fun _ _ _ h => h) (Or.inl ⟨by rfl, ?_⟩) (by assumption) ?_
          rotate_left
          · (intro wq hSq; (try dsimp only at hSq); go_simp; try with_reducible rfl)
          try simp only [Act.put, List.setIfInBounds_toArray, List.set_cons_zero, List.set_cons_succ]
          refine wpAnyT_take 10 (v := ?_) (by kernel_rfl) rfl (by kernel_rfl) (by decide) rfl (by kernel_rfl) (by kernel_rfl) (fun _ _ _ h => h) (Or.inl ⟨by rfl, ?_⟩) (by assumption) ?_
          rotate_left
          · (intro wq hSq; (try dsimp only at hSq); go_simp; try with_reducible rfl)
          try simp only [Act.put, List.setIfInBounds_toArray, List.set_cons_zero, List.set_cons_succ]
          refine wpAnyT_step 6 (by kernel_rfl) rfl (fun K hK => ?_)
          go_simp
          refine hK.out _ _ ⟨HK0.out.trans c00, HK1.out.trans c01⟩ (fun hHeld2 => ?_)
          clear hK K hHeld
          try simp only [Act.put, List.setIfInBounds_toArray, List.set_cons_zero, List.set_cons_succ]
          refine wpAnyT_step 11 (by kernel_rfl) rfl (fun K hK => ?_)
          refine step_append_reads (by rfl) (.tmp 26) (.tmp 30) 57 (by rfl) W0.heap.size 47 i0 (.int .u32 0) 4 Try.underlying57 hi0 hiz hiz1 hizb rfl (.slice (some ⟨W0.heap.size, 0, none⟩) 0 0) 0 [] (by rfl) HO.out _ (.slice a 0 c) ((hw n).map u32V) (by rfl) (HR.out _ HBA.out) (one_u32 _) HL1.out HL2.out HBS.out ?_
          intro v6 w6 hown6 hg6
          obtain ⟨a6, n6, c6, rfl, hb6, hn6, hk0, hk1, hg16⟩ := HF.out v6 w6 hown6 hg6
          clear hown6 hg6
          refine hK.out _ _ ⟨hk0.trans c00, hk1.trans c01⟩ (fun hHeld3 => ?_)
          have HB6 := Lib.hid hb6
          have HN6 := Lib.hid hn6
          have HG6 := Lib.hid hg16
          clear hb6 hn6 hg16 hk0 hk1
          clear hK K hHeld2
          try simp only [Act.put, List.setIfInBounds_toArray, List.set_cons_zero, List.set_cons_succ]
          refine wpAnyT_take 12 (v := ?_) (by kernel_rfl) rfl (by kernel_rfl) (by decide) rfl (by kernel_rfl) (by kernel_rfl) (fun _ _ _ h => h) (Or.inl ⟨by rfl, ?_⟩) (by assumption) ?_
          rotate_left
          · (intro wq hSq; (try dsimp only at hSq); go_simp; try with_reducible rfl)
          try simp only [Act.put, List.setIfInBounds_toArray, List.set_cons_zero, List.set_cons_succ]
          refine wpAnyT_last (by kernel_rfl) (by kernel_rfl) rfl (fun K hK => ?_)
          obtain ⟨d0, d1, fz0, fz1⟩ := num_cells HG6.out
          go_simp
          refine hK.out _ _ ?_
          clear hK K hHeld3 d0 d1 fz0 fz1
          have m2 := num_set HG6.out (.bool false) (.slice a6 n6 c6)
          have hb9 : Below w.heap.size w ((w6.setCell ⟨w.heap.size + 1, 0, none⟩ (.bool false)).setCell ⟨w.heap.size + 1, 1, none⟩ (.slice a6 n6 c6)) := (HB6.out.setCell (by simp) _).setCell (by simp) _
          have hn9 : World.owns ((w6.setCell ⟨w.heap.size + 1, 0, none⟩ (.bool false)).setCell ⟨w.heap.size + 1, 1, none⟩ (.slice a6 n6 c6)) w.heap.size 47 1 (.slice a6 n6 c6) (hw n).length ((hw n).map u32V) := ((World.owns.setCell HN6.out HZ1.out _).setCell HZ1.out _).mono HZ2.out
          obtain ⟨d20, d21, -, -⟩ := num_cells m2
          clear m2
          generalize (w6.setCell ⟨w.heap.size + 1, 0, none⟩ (.bool false)).setCell ⟨w.heap.size + 1, 1, none⟩ (.slice a6 n6 c6) = W9 at d20 d21 hb9 hn9 ⊢
          have HB9 := Lib.hid hb9
          have HN9 := Lib.hid hn9
          clear hb9 hn9
          go_wp2
          rw [HP.out]
          exact bodyPost_ret (v := .agg #[.bool false, .slice a6 n6 c6]) (by simp [results, Try.results62, go_sem, d20, d21]) rfl ⟨.slice a6 n6 c6, by rw [hSt.out], HN9.out, HB9.out⟩
      · have t0 : (0 : Int) < (k : Int) := by omega
        have t1 : ((x : Int) == 0) = false := by rw [beq_eq_false_iff_ne]; omega
        have hj2 : (k : Int) - 1 = (j : Int) := by omega
        have hjL : j < L := by omega
        have hSt : Hid (S = s) := by show _ = _; rw [HSS.out, decide_eq_true (by omega), Bool.and_true]
        clear hx hj hk1
        go_wp2_with fail
        cases s with
        | true =>
          refine wp_region_line (fun w' => w'.cell? ⟨w.heap.size, 0, none⟩ = some (.bool true) ∧ w'.cell? ⟨w.heap.size, 1, none⟩ = some (.slice (some ⟨b, off, none⟩) L c)) 13 (by kernel_rfl) ⟨c00, c01⟩ (fun hHeld => ?_)
          refine wpAnyT_take 0 (v := ?_) (by kernel_rfl) rfl (by kernel_rfl) (by decide) rfl (by kernel_rfl) (by kernel_rfl) (fun _ _ _ h => h) (Or.inl ⟨by rfl, ?_⟩) (by assumption) ?_
          rotate_left
          · (intro wq hSq; (try dsimp only at hSq); go_simp; try with_reducible rfl)
          try simp only [Act.put, List.setIfInBounds_toArray, List.set_cons_zero, List.set_cons_succ]
          refine wpAnyT_take 1 (v := ?_) (by kernel_rfl) rfl (by kernel_rfl) (by decide) rfl (by kernel_rfl) (by kernel_rfl) (fun _ _ _ h => h) (Or.inl ⟨by rfl, ?_⟩) (by assumption) ?_
          rotate_left
          · (intro wq hSq; (try dsimp only at hSq); go_simp; try with_reducible rfl)
          try simp only [Act.put, List.setIfInBounds_toArray, List.set_cons_zero, List.set_cons_succ]
          refine wpAnyT_take 2 (v := ?_) (by kernel_rfl) rfl (by kernel_rfl) (by decide) rfl (by kernel_rfl) (by kernel_rfl) (fun _ _ _ h => h) (Or.inl ⟨by rfl, ?_⟩) (by assumption) ?_
          rotate_left
          · (intro wq hSq; (try dsimp only at hSq); go_simp; try with_reducible rfl)
          try simp only [Act.put, List.setIfInBounds_toArray, List.set_cons_zero, List.set_cons_succ]
          refine wpAnyT_take 3 (v := ?_) (by kernel_rfl) rfl (by kernel_rfl) (by decide) rfl (by kernel_rfl) (by kernel_rfl) (fun _ _ _ h => h) (Or.inl ⟨by rfl, ?_⟩) (by assumption) ?_
          rotate_left
          · (intro wq hSq; (try dsimp only at hSq); go_simp; try with_reducible rfl)
          try simp only [Act.put, List.setIfInBounds_toArray, List.set_cons_zero, List.set_cons_succ]
          refine wpAnyT_take 4 (v := ?_) (by kernel_rfl) rfl (by kernel_rfl) (by decide) rfl (by kernel_rfl) (by kernel_rfl) (fun _ _ _ h => h) (Or.inl ⟨by rfl, ?_⟩) (by assumption) ?_
          rotate_left
          · (intro wq hSq; (try dsimp only at hSq); go_simp; try with_reducible rfl)
          try simp only [Act.put, List.setIfInBounds_toArray, List.set_cons_zero, List.set_cons_succ]
          refine wpAnyT_take 5 (v := ?_) (by kernel_rfl) rfl (by kernel_rfl) (by decide) rfl (by kernel_rfl) (by kernel_rfl) (fun _ _ _ h => h) (Or.inl ⟨by rfl, ?_⟩) (by assumption) ?_
          rotate_left
          · (intro wq hSq; (try dsimp only at hSq); go_simp; try with_reducible rfl)
          try simp only [Act.put, List.setIfInBounds_toArray, List.set_cons_zero, List.set_cons_succ]
          refine wpAnyT_take 7 (v := ?_) (by kernel_rfl) rfl (by kernel_rfl) (by decide) rfl (by kernel_rfl) (by kernel_rfl) (fun _ _ _ h => h) (Or.inl ⟨by rfl, ?_⟩) (by assumption) ?_
          rotate_left
          · (intro wq hSq; (try dsimp only at hSq); go_simp; try with_reducible rfl)
          try simp only [Act.put, List.setIfInBounds_toArray, List.set_cons_zero, List.set_cons_succ]
          refine wpAnyT_take 8 (v := ?_) (by kernel_rfl) rfl (by kernel_rfl) (by decide) rfl (by kernel_rfl) (by kernel_rfl) (fun _ _ _ h => h) (Or.inl ⟨by rfl, ?_⟩) (by assumption) ?_
          rotate_left
          · (intro wq hSq; (try dsimp only at hSq); go_simp; try with_reducible rfl)
          try simp only [Act.put, List.setIfInBounds_toArray, List.set_cons_zero, List.set_cons_succ]
          refine wpAnyT_take 9 (v := ?_) (by kernel_rfl) rfl (by kernel_rfl) (by decide) rfl (by kernel_rfl) (by kernel_rfl) (fun _ _ _ h => h) (Or.inl ⟨by rfl, ?_⟩) (by assumption) ?_
          rotate_left
          · (intro wq hSq; (try dsimp only at hSq); go_simp; try with_reducible rfl)
          try simp only [Act.put, List.setIfInBounds_toArray, List.set_cons_zero, List.set_cons_succ]
          refine wpAnyT_take 10 (v := ?_) (by kernel_rfl) rfl (by kernel_rfl) (by decide) rfl (by kernel_rfl) (by kernel_rfl) (fun _ _ _ h => h) (Or.inl ⟨by rfl, ?_⟩) (by assumption) ?_
          rotate_left
          · (intro wq hSq; (try dsimp only at hSq); go_simp; try with_reducible rfl)
          try simp only [Act.put, List.setIfInBounds_toArray, List.set_cons_zero, List.set_cons_succ]
          refine wpAnyT_step 6 (by kernel_rfl) rfl (fun K hK => ?_)
          go_simp
          refine hK.out _ _ ⟨HK0.out.trans c00, HK1.out.trans c01⟩ (fun hHeld2 => ?_)
          clear hK K hHeld
          try simp only [Act.put, List.setIfInBounds_toArray, List.set_cons_zero, List.set_cons_succ]
          refine wpAnyT_step 11 (by kernel_rfl) rfl (fun K hK => ?_)
          refine step_append_reads (by rfl) (.tmp 26) (.tmp 30) 57 (by rfl) W0.heap.size 47 i0 (.int .u32 0) 4 Try.underlying57 hi0 hiz hiz1 hizb rfl (.slice (some ⟨W0.heap.size, 0, none⟩) 0 0) 0 [] (by rfl) HO.out _ (.slice (some ⟨b, off, none⟩) k c) ((hw n).map u32V) (by rfl) (HR.out _ HBA.out) (one_u32 _) HL1.out HL2.out HBS.out ?_
          intro v6 w6 hown6 hg6
          obtain ⟨a6, n6, c6, rfl, hb6, hn6, hk0, hk1, hg16⟩ := HF.out v6 w6 hown6 hg6
          clear hown6 hg6
          refine hK.out _ _ ⟨hk0.trans c00, hk1.trans c01⟩ (fun hHeld3 => ?_)
          have HB6 := Lib.hid hb6
          have HN6 := Lib.hid hn6
          have HG6 := Lib.hid hg16
          clear hb6 hn6 hg16 hk0 hk1
          clear hK K hHeld2
          try simp only [Act.put, List.setIfInBounds_toArray, List.set_cons_zero, List.set_cons_succ]
          refine wpAnyT_take 12 (v := ?_) (by kernel_rfl) rfl (by kernel_rfl) (by decide) rfl (by kernel_rfl) (by kernel_rfl) (fun _ _ _ h => h) (Or.inl ⟨by rfl, ?_⟩) (by assumption) ?_
          rotate_left
          · (intro wq hSq; (try dsimp only at hSq); go_simp; try with_reducible rfl)
          try simp only [Act.put, List.setIfInBounds_toArray, List.set_cons_zero, List.set_cons_succ]
          refine wpAnyT_last (by kernel_rfl) (by kernel_rfl) rfl (fun K hK => ?_)
          obtain ⟨d0, d1, fz0, fz1⟩ := num_cells HG6.out
          go_simp
          refine hK.out _ _ ?_
          clear hK K hHeld3 d0 d1 fz0 fz1
          have m2 := num_set HG6.out (.bool true) (.slice a6 n6 c6)
          have hb9 : Below w.heap.size w ((w6.setCell ⟨w.heap.size + 1, 0, none⟩ (.bool true)).setCell ⟨w.heap.size + 1, 1, none⟩ (.slice a6 n6 c6)) := (HB6.out.setCell (by simp) _).setCell (by simp) _
          have hn9 : World.owns ((w6.setCell ⟨w.heap.size + 1, 0, none⟩ (.bool true)).setCell ⟨w.heap.size + 1, 1, none⟩ (.slice a6 n6 c6)) w.heap.size 47 1 (.slice a6 n6 c6) (hw n).length ((hw n).map u32V) := ((World.owns.setCell HN6.out HZ1.out _).setCell HZ1.out _).mono HZ2.out
          obtain ⟨d20, d21, -, -⟩ := num_cells m2
          clear m2
          generalize (w6.setCell ⟨w.heap.size + 1, 0, none⟩ (.bool true)).setCell ⟨w.heap.size + 1, 1, none⟩ (.slice a6 n6 c6) = W9 at d20 d21 hb9 hn9 ⊢
          have HB9 := Lib.hid hb9
          have HN9 := Lib.hid hn9
          clear hb9 hn9
          go_wp2
          rw [HP.out]
          exact bodyPost_ret (v := .agg #[.bool true, .slice a6 n6 c6]) (by simp [results, Try.results62, go_sem, d20, d21]) rfl ⟨.slice a6 n6 c6, by rw [hSt.out], HN9.out, HB9.out⟩
        | false =>
          refine wp_region_line (fun w' => w'.cell? ⟨w.heap.size, 0, none⟩ = some (.bool false) ∧ w'.cell? ⟨w.heap.size, 1, none⟩ = some (.slice (some ⟨b, off, none⟩) L c)) 13 (by kernel_rfl) ⟨c00, c01⟩ (fun hHeld => ?_)
          refine wpAnyT_take 0 (v := ?_) (by kernel_rfl) rfl (by kernel_rfl) (by decide) rfl (by kernel_rfl) (by kernel_rfl) (fun _ _ _ h => h) (Or.inl ⟨by rfl, ?_⟩) (by assumption) ?_
          rotate_left
          · (intro wq hSq; (try dsimp only at hSq); go_simp; try with_reducible rfl)
          try simp only [Act.put, List.setIfInBounds_toArray, List.set_cons_zero, List.set_cons_succ]
          refine wpAnyT_take 1 (v := ?_) (by kernel_rfl) rfl (by kernel_rfl) (by decide) rfl (by kernel_rfl) (by kernel_rfl) (fun _ _ _ h => h) (Or.inl ⟨by rfl, ?_⟩) (by assumption) ?_
          rotate_left
          · (intro wq hSq; (try dsimp only at hSq); go_simp; try with_reducible rfl)
          try simp only [Act.put, List.setIfInBounds_toArray, List.set_cons_zero, List.set_cons_succ]
          refine wpAnyT_take 2 (v := ?_) (by kernel_rfl) rfl (by kernel_rfl) (by decide) rfl (by kernel_rfl) (by kernel_rfl) (fun _ _ _ h => h) (Or.inl ⟨by rfl, ?_⟩) (by assumption) ?_
          rotate_left
          · (intro wq hSq; (try dsimp only at hSq); go_simp; try with_reducible rfl)
          try simp only [Act.put, List.setIfInBounds_toArray, List.set_cons_zero, List.set_cons_succ]
          refine wpAnyT_take 3 (v := undef) (by kernel_rfl) rfl (by kernel_rfl) (by decide) rfl (by kernel_rfl) (by kernel_rfl) (fun _ _ _ h => h) (Or.inr ⟨by rfl, rfl⟩) (by assumption) ?_
          try simp only [Act.put, List.setIfInBounds_toArray, List.set_cons_zero, List.set_cons_succ]
          refine wpAnyT_take 4 (v := undef) (by kernel_rfl) rfl (by kernel_rfl) (by decide) rfl (by kernel_rfl) (by kernel_rfl) (fun _ _ _ h => h) (Or.inr ⟨by rfl, rfl⟩) (by assumption) ?_
          try simp only [Act.put, List.setIfInBounds_toArray, List.set_cons_zero, List.set_cons_succ]
          refine wpAnyT_take 5 (v := ?_) (by kernel_rfl) rfl (by kernel_rfl) (by decide) rfl (by kernel_rfl) (by kernel_rfl) (fun _ _ _ h => h) (Or.inl ⟨by rfl, ?_⟩) (by assumption) ?_
          rotate_left
          · (intro wq hSq; (try dsimp only at hSq); go_simp; try with_reducible rfl)
          try simp only [Act.put, List.setIfInBounds_toArray, List.set_cons_zero, List.set_cons_succ]
          refine wpAnyT_take 7 (v := ?_) (by kernel_rfl) rfl (by kernel_rfl) (by decide) rfl (by kernel_rfl) (by kernel_rfl) (fun _ _ _ h => h) (Or.inl ⟨by rfl, ?_⟩) (by assumption) ?_
          rotate_left
          · (intro wq hSq; (try dsimp only at hSq); go_simp; try with_reducible rfl)
          try simp only [Act.put, List.setIfInBounds_toArray, List.set_cons_zero, List.set_cons_succ]
          refine wpAnyT_take 8 (v := ?_) (by kernel_rfl) rfl (by kernel_rfl) (by decide) rfl (by kernel_rfl) (by kernel_rfl) (fun _ _ _ h => h) (Or.inl ⟨by rfl, ?_⟩) (by assumption) ?_
          rotate_left
          · (intro wq hSq; (try dsimp only at hSq); go_simp; try with_reducible rfl)
          try simp only [Act.put, List.setIfInBounds_toArray, List.set_cons_zero, List.set_cons_succ]
          refine wpAnyT_take 9 (v := ?_) (by kernel_rfl) rfl (by kernel_rfl) (by decide) rfl (by kernel_rfl) (by kernel_rfl) (fun _ _ _ h => h) (Or.inl ⟨by rfl, ?_⟩) (by assumption) ?_
          rotate_left
          · (intro wq hSq; (try dsimp only at hSq); go_simp; try with_reducible rfl)
          try simp only [Act.put, List.setIfInBounds_toArray, List.set_cons_zero, List.set_cons_succ]
          refine wpAnyT_take 10 (v := ?_) (by kernel_rfl) rfl (by kernel_rfl) (by decide) rfl (by kernel_rfl) (by kernel_rfl) (fun _ _ _ h => h) (Or.inl ⟨by rfl, ?_⟩) (by assumption) ?_
          rotate_left
          · (intro wq hSq; (try dsimp only at hSq); go_simp; try with_reducible rfl)
          try simp only [Act.put, List.setIfInBounds_toArray, List.set_cons_zero, List.set_cons_succ]
          refine wpAnyT_step 6 (by kernel_rfl) rfl (fun K hK => ?_)
          go_simp
          refine hK.out _ _ ⟨HK0.out.trans c00, HK1.out.trans c01⟩ (fun hHeld2 => ?_)
          clear hK K hHeld
          try simp only [Act.put, List.setIfInBounds_toArray, List.set_cons_zero, List.set_cons_succ]
          refine wpAnyT_step 11 (by kernel_rfl) rfl (fun K hK => ?_)
          refine step_append_reads (by rfl) (.tmp 26) (.tmp 30) 57 (by rfl) W0.heap.size 47 i0 (.int .u32 0) 4 Try.underlying57 hi0 hiz hiz1 hizb rfl (.slice (some ⟨W0.heap.size, 0, none⟩) 0 0) 0 [] (by rfl) HO.out _ (.slice (some ⟨b, off, none⟩) k c) ((hw n).map u32V) (by rfl) (HR.out _ HBA.out) (one_u32 _) HL1.out HL2.out HBS.out ?_
          intro v6 w6 hown6 hg6
          obtain ⟨a6, n6, c6, rfl, hb6, hn6, hk0, hk1, hg16⟩ := HF.out v6 w6 hown6 hg6
          clear hown6 hg6
          refine hK.out _ _ ⟨hk0.trans c00, hk1.trans c01⟩ (fun hHeld3 => ?_)
          have HB6 := Lib.hid hb6
          have HN6 := Lib.hid hn6
          have HG6 := Lib.hid hg16
          clear hb6 hn6 hg16 hk0 hk1
          clear hK K hHeld2
          try simp only [Act.put, List.setIfInBounds_toArray, List.set_cons_zero, List.set_cons_succ]
          refine wpAnyT_take 12 (v := ?_) (by kernel_rfl) rfl (by kernel_rfl) (by decide) rfl (by kernel_rfl) (by kernel_rfl) (fun _ _ _ h => h) (Or.inl ⟨by rfl, ?_⟩) (by assumption) ?_
          rotate_left
          · (intro wq hSq; (try dsimp only at hSq); go_simp; try with_reducible rfl)
          try simp only [Act.put, List.setIfInBounds_toArray, List.set_cons_zero, List.set_cons_succ]
          refine wpAnyT_last (by kernel_rfl) (by kernel_rfl) rfl (fun K hK => ?_)
          obtain ⟨d0, d1, fz0, fz1⟩ := num_cells HG6.out
          go_simp
          refine hK.out _ _ ?_
          clear hK K hHeld3 d0 d1 fz0 fz1
          have m2 := num_set HG6.out (.bool false) (.slice a6 n6 c6)
          have hb9 : Below w.heap.size w ((w6.setCell ⟨w.heap.size + 1, 0, none⟩ (.bool false)).setCell ⟨w.heap.size + 1, 1, none⟩ (.slice a6 n6 c6)) := (HB6.out.setCell (by simp) _).setCell (by simp) _
          have hn9 : World.owns ((w6.setCell ⟨w.heap.size + 1, 0, none⟩ (.bool false)).setCell ⟨w.heap.size + 1, 1, none⟩ (.slice a6 n6 c6)) w.heap.size 47 1 (.slice a6 n6 c6) (hw n).length ((hw n).map u32V) := ((World.owns.setCell HN6.out HZ1.out _).setCell HZ1.out _).mono HZ2.out
          obtain ⟨d20, d21, -, -⟩ := num_cells m2
          clear m2
          generalize (w6.setCell ⟨w.heap.size + 1, 0, none⟩ (.bool false)).setCell ⟨w.heap.size + 1, 1, none⟩ (.slice a6 n6 c6) = W9 at d20 d21 hb9 hn9 ⊢
          have HB9 := Lib.hid hb9
          have HN9 := Lib.hid hn9
          clear hb9 hn9
          go_wp2
          rw [HP.out]
          exact bodyPost_ret (v := .agg #[.bool false, .slice a6 n6 c6]) (by simp [results, Try.results62, go_sem, d20, d21]) rfl ⟨.slice a6 n6 c6, by rw [hSt.out], HN9.out, HB9.out⟩
theorem htrim_any (s : Bool) (n L : Nat) (hn : n < 65536 ^ L) (hL : L ≤ 10000) (v : Value) (w : World) (hv : World.rawH w v n L) :
    Calls Try.prog 62 #[.agg #[.bool s, v]] w (SRet w (s && decide (n ≠ 0)) n) := (htrim_own s n L hn hL v w hv).mono fun _ _ h => h.ret
end Go.Proofs.Ytdfklcmiagmgaaa
