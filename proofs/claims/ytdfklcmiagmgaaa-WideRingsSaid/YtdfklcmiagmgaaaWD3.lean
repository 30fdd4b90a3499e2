/- Walks: the decimal text of a form. -/
import Derived.Test.YtdfklcmiagmgaaaWM9
import Derived.Test.YtdfklcmiagmgaaaHeldD
namespace Go.Proofs.Ytdfklcmiagmgaaa
set_option linter.all false
open Go.RowKit Go.Shelf Go.WideNum
def u8V (x : Nat) : Value := .int .u8 (x : Int)
theorem app_u8 {ops : Array Oper} {rest : List Oper} {o : Oper} {a : Act} {Q : Exit → Act → World → Prop} (W : World) (hg : o.guard = none) (s x : Operand)
    (hop : o.op = .call { callee := .builtin .append, args := #[s, x], argTypes := #[67, 67] })
    (base : Nat) (v : Value) (n : Nat) (xs : List Value) (hs : a.eval s = v) (hown : W.owns base 5 1 v n xs) (u : Int) (H : Nat) (hH : W.heap.size = H) (hx : a.eval x = .slice (some ⟨H, 0, none⟩) 1 1)
    (hn : n ≤ 1000000) (hbase : base ≤ W.heap.size)
    (h : ∀ v' w', w'.owns base 5 1 v' (n + 1) (xs ++ [.int .u8 u]) → W.grownBy w' v.ownBlock → W.heap.size < w'.heap.size → wpList Try.prog ops Q rest (a.put o.dst v') w') : wpList Try.prog ops Q (o :: rest) a (W.alloc (.cells #[.int .u8 u] 5)) := by
  obtain ⟨i0, hi, hz, h1, h2⟩ := info_parts infoByte
  exact wpList_append1 W hg s x 67 hop base 5 i0 (.int .u8 0) 1 Try.underlying67 hi hz h1 h2 rfl v n xs hs hown (.int .u8 u) H hH hx rfl (by unfold maxLen; omega) (by omega) hbase (fun v' w' h1 _ h3 h4 => h v' w' h1 h3 h4)
/-- Bytes that are owned, made a string. -/
theorem own_string {W : World} {base g n c : Nat} {l : List Nat} (h : W.owns base 5 1 (.slice (some ⟨g, 0, none⟩) n c) n (l.map u8V)) (hl : ∀ x ∈ l, x < 256) (dst : TypeId) (hd : Try.prog.underlying dst = some .string) :
    (convert 67 dst (.slice (some ⟨g, 0, none⟩) n c)).run Try.prog W = .ok (.string ⟨(l.map UInt8.ofNat).toArray⟩) W := by
  have hn : l.length = n := by have := h.1; simpa using this
  have e : l.map u8V = (l.map UInt8.ofNat).map fun b => Value.int .u8 (b.toNat : Int) := by
    rw [List.map_map]
    apply List.map_congr_left
    intro x hx
    show Value.int .u8 (x : Int) = Value.int .u8 (((UInt8.ofNat x).toNat : Nat) : Int)
    rw [UInt8.toNat_ofNat', Nat.mod_eq_of_lt (hl x hx)]
  rw [e] at h
  have h2 := run_owns_string (P := Try.prog) (w := W) (m := n) 67 dst 5 Try.underlying67 Try.underlying5 hd h (by simp [hn]) c
  rw [List.take_of_length_le (by simp [hn])] at h2
  exact h2
theorem Valid_wide (neg : Bool) (s : ByteArray) (hs : s.size ≤ maxLen) (w : World) :
    Calls Try.prog 16 #[.agg #[.bool neg, .string s]] w fun e w' => e = .returned (.bool (validB neg s)) ∧ Below w.heap.size w w' := Valid_any neg s hs w
theorem of_wide (neg : Bool) (s : ByteArray) (hs : s.size ≤ 2000) (w : World) : Calls Try.prog 58 #[.agg #[.bool neg, .string s]] w (NumRet w (numB s)) := of_any neg s hs w
theorem short_num (A n : Nat) (hn0 : 0 < n) (hn : n < 4294967296) (va : Value) (w : World) (hA : World.numR w va A) (hla : (wd A).length ≤ 2000) (z : Int) (hz : z = (n : Int)) :
    Calls Try.prog 59 #[va, .int .u32 z] w (ShortRet w A n) := by subst hz; exact short_any A n hn0 hn va w hA hla
theorem owns_fz {W : World} {base g n c : Nat} {e : TypeId} {xs : List Value} (h : W.owns base e 1 (.slice (some ⟨g, 0, none⟩) n c) n xs) (j : Nat) (hj : j < n) : W.frozen? ⟨g, j, none⟩ = false := by
  rcases h.2 with ⟨h0, _⟩ | ⟨g', cap, cur, fz, hv, hb, hg, hf, hle, hm, hs, _⟩
  · cases h0
  · injection hv with h1 h2 h3
    injection h1 with h1
    injection h1 with h1
    subst h1 h3
    have := hf j (by omega)
    simp [World.frozen?, hg]
    omega
theorem below_grown2 {w W W' : World} {v : Value} {n : Nat} {xs : List Value} {e : TypeId} (hb : Below w.heap.size w W) (h : W.owns w.heap.size e 1 v n xs) (hg : W.grownBy W' v.ownBlock) : Below w.heap.size w W' :=
  hb.trans (below_grown h hg w.heap.size (Nat.le_refl _) hb.size)
def TextRet (w : World) (neg : Bool) (s : ByteArray) (e : Ending) (w' : World) : Prop := e = .returned (.tuple #[.string (if validB neg s then textB neg (numB s) else ⟨#[]⟩), .int .i64 (if validB neg s then 0 else 2)]) ∧ Below w.heap.size w w'
set_option maxRecDepth 100000 in
set_option maxHeartbeats 8000000 in
theorem Text_any (neg : Bool) (s : ByteArray) (hs : s.size ≤ maxLen) (w : World) :
    Calls Try.prog 14 #[wideV neg s] w (TextRet w neg s) := by
  unfold wideV
  obtain ⟨HPOST, hpost⟩ : ∃ X, X = TextRet w neg s := ⟨_, rfl⟩
  rw [← hpost]
  have HP := Lib.hid hpost
  clear hpost
  have hs63 : s.size ≤ 9223372036854775807 := hs
  have HVAL : Hid (∀ W : World, Calls Try.prog 16 #[.agg #[.bool neg, .string s]] W fun e w' => e = .returned (.bool (validB neg s)) ∧ Below W.heap.size W w') := Valid_wide neg s hs
  cases hv : validB neg s with
  | false =>
    rw [hv] at HVAL
    have HV := Lib.hid hv
    clear hv
    go_enter Try.func14, Try.ntmps14
    go_wp2_with fail
    (with_reducible refine (HVAL.out _).mono ?_)
    rintro e w1 ⟨rfl, hb⟩
    have HB := Lib.hid (((Below.refl w.heap.size w).alloc (Nat.le_refl _) (.cells #[.bool neg, .string s] 23)).trans (hb.mono (by simp)))
    clear hb
    go_wp2
    rw [HP.out]
    exact ⟨by rw [HV.out]; rfl, HB.out⟩
  | true =>
    obtain ⟨hlim, hmag, hnz, h256⟩ := valid_spec neg s hv
    rw [hv] at HVAL
    have HV := Lib.hid hv
    have HOF : Hid (∀ W : World, Calls Try.prog 58 #[.agg #[.bool neg, .string s]] W (NumRet W (numB s))) := of_wide neg s (by omega)
    obtain ⟨n, hn⟩ : ∃ n, n = numB s := ⟨_, rfl⟩
    rw [← hn] at hlim hmag hnz HOF
    have HN := Lib.hid hn
    have HMAG := Lib.hid hmag
    have HLIM := Lib.hid hlim
    clear hv hn hmag hlim hnz
    by_cases h0 : s.size = 0
    · have hse : s = ⟨#[]⟩ := by
        apply ByteArray.ext
        exact Array.eq_empty_of_size_eq_zero h0
      have hn0 : n = 0 := by rw [HN.out, hse]; rfl
      subst hse
      subst hn0
      go_enter Try.func14, Try.ntmps14
      go_wp2_with fail
      (with_reducible refine (HVAL.out _).mono ?_)
      rintro e w1 ⟨rfl, hb⟩
      have hw1 := (hb.block w.heap.size (by simp)).trans (heap_alloc_new w _)
      obtain ⟨c0, c1, f0⟩ := wide_cells hw1
      have HB := Lib.hid (((Below.refl w.heap.size w).alloc (Nat.le_refl _) (.cells #[.bool neg, .string ⟨#[]⟩] 23)).trans (hb.mono (by simp)))
      clear hb hw1
      go_wp2
      rw [HP.out]
      exact ⟨by rw [HV.out, ← HN.out]; rfl, HB.out⟩
    · have hns : ¬ s = (⟨#[]⟩ : ByteArray) := fun h => h0 (by rw [h]; rfl)
      have hem : s.toList.isEmpty = false := by
        rw [ByteArray.toList_eq]
        cases hl : s.data.toList with
        | nil =>
          exfalso
          apply h0
          show s.data.size = 0
          rw [← Array.length_toList, hl]; rfl
        | cons a l => rfl
      have hn0 : n ≠ 0 := by
        intro h
        have := HMAG.out
        rw [h] at this
        exact h0 (by rw [← this]; rfl)
      have hwl := wd_len65 HLIM.out
      obtain ⟨D, hD⟩ : ∃ D, D = (words 10 n).length := ⟨_, rfl⟩
      have hD1000 : D ≤ 1000 := by
        rw [hD]
        refine words_length (by omega) n 1000 (Nat.lt_trans HLIM.out ?_)
        unfold lim
        decide +kernel
      have HWL := Lib.hid hwl
      have HD := Lib.hid hD
      have HN0 := Lib.hid hn0
      clear hwl hD hn0
      go_enter Try.func14, Try.ntmps14
      go_wp2_with fail
      (with_reducible refine (HVAL.out _).mono ?_)
      rintro e w1 ⟨rfl, hb⟩
      have hw1 := (hb.block w.heap.size (by simp)).trans (heap_alloc_new w _)
      obtain ⟨c0, c1, f0⟩ := wide_cells hw1
      have HB := Lib.hid (((Below.refl w.heap.size w).alloc (Nat.le_refl _) (.cells #[.bool neg, .string s] 23)).trans (hb.mono (by simp)))
      have HW1 := Lib.hid hw1
      clear hb hw1
      go_wp2_with fail
      (with_reducible refine (HOF.out _).mono ?_)
      rintro e w2 hr2
      obtain ⟨v2, rfl, ho2, hb2⟩ := hr2
      have hn2 : World.numR w2 v2 n := ho2.reads
      obtain ⟨a2, c2, rfl⟩ := numR_shape hn2
      have hw2 := (hb2.block w.heap.size (lt_of_heap HW1.out)).trans HW1.out
      have HN2 : Hid (World.numR w2 (.slice a2 (wd n).length c2) (n / 10 ^ 0)) := by show World.numR _ _ _; rw [Nat.pow_zero, Nat.div_one]; exact hn2
      have HW2 := Lib.hid hw2
      have HB2 := Lib.hid (HB.out.trans (hb2.mono HB.out.size))
      clear c0 c1 f0 ho2 hb2 hn2 hw2
      go_wp2_with fail
      go_loopw [4, 5] (fun sv av wr => ∃ (m L : Nat) (a : Option Addr) (c : Nat) (va : Option Addr) (vc : Nat), m ≤ D ∧ av = .slice a L c ∧ sv = .slice va m vc ∧ Hid (L = (wd (n / 10 ^ m)).length) ∧ Hid (World.numR wr (.slice a L c) (n / 10 ^ m)) ∧ Hid (wr.owns w.heap.size 5 1 (.slice va m vc) m ((decDig n m).map u8V)) ∧ Hid (wr.heap[w.heap.size]? = some (.cells #[.bool neg, .string s] 23)) ∧ Hid (Below w.heap.size w wr)) (fun sv _ _ => D - lenOf sv)
      case atStart => exact ⟨0, _, _, _, none, 0, Nat.zero_le _, rfl, rfl, by show _ = _; rw [Nat.pow_zero, Nat.div_one], HN2.out, World.owns_nil _ _ _ _, HW2.out, HB2.out⟩
      case round =>
        obtain ⟨m, L, a, c, va, vc, hm, rfl, rfl, hL, hA, hO, hW, hB⟩ := hrel
        by_cases hz : n / 10 ^ m = 0
        · have hmD : m = D := by have := ten_zero hz; rw [← HD.out] at this; omega
          have hL0 : L = 0 := by rw [hL.out, hz]; rfl
          subst hmD
          subst hL0
          obtain ⟨c0, c1, f0⟩ := wide_cells hW.out
          obtain ⟨M, hM⟩ : ∃ M, M = (textN neg n).length := ⟨_, rfl⟩
          have HM := Lib.hid hM
          have hszW := hB.out.size
          have htl : (textN neg n).length = m + (if neg then 1 else 0) := by
            unfold textN
            rw [List.length_append, ← HD.out]
            congr 1
            · simp [decDig]
            · split <;> rfl
          have HTL := Lib.hid htl
          clear hL hM hz htl
          go_upto_if 49 with (fail)
          go_cut [4] (fun sv wx => ∃ (g vc2 : Nat), sv = .slice (some ⟨g, 0, none⟩) M vc2 ∧ Hid (wx.owns w.heap.size 5 1 (.slice (some ⟨g, 0, none⟩) M vc2) M ((textN neg n).map u8V)) ∧ Hid (Below w.heap.size w wx))
          case first =>
            cases neg with
            | true =>
              have hMm : M = m + 1 := by rw [HM.out, HTL.out]; rfl
              go_wp2_with (at_builtin; refine app_u8 wr rfl (.tmp 50) (.tmp 51) rfl w.heap.size (.slice va m vc) m _ rfl hO.out (45 : Int) wr.heap.size rfl rfl (by omega) hszW ?_; intro v7 w7 hown7 hg7 hz7; have HO7 := Lib.hid hown7; obtain ⟨g7, q7, rfl⟩ := hown7.succ; have HB7 := Lib.hid (below_grown2 hB.out hO.out hg7); clear hown7 hg7)
              go_meet
              case rel =>
                refine ⟨g7, q7, by rw [hMm], ?_, HB7.out⟩
                show World.owns _ _ _ _ _ _ _
                rw [hMm, textN, List.map_append, ← HD.out]
                exact HO7.out
            | false =>
              have hMm : M = m := by rw [HM.out, HTL.out]; rfl
              have hm0 : 0 < m := by
                have := ten_pos (n := n) (j := 0) (by have := HN0.out; omega)
                rw [← HD.out] at this; exact this
              obtain ⟨g7, q7, hg7⟩ := hO.out.pos hm0
              injection hg7 with e1 e2 e3
              subst e1 e3
              go_wp2
              go_meet
              case rel =>
                refine ⟨g7, _, by rw [hMm], ?_, hB.out⟩
                show World.owns _ _ _ _ _ _ _
                rw [hMm, textN, ← HD.out]
                simpa using hO.out
          case rest =>
            obtain ⟨g, vc2, rfl, hO9, hB9⟩ := hcut
            clear c0 c1 f0 hW hszW hO hB hA
            have hMl : M ≤ 1001 := by rw [HM.out, HTL.out]; split <;> omega
            obtain ⟨l, hl⟩ : ∃ l, l = textN neg n := ⟨_, rfl⟩
            rw [← hl] at hO9 HM
            have HLL := Lib.hid hl
            have hM1 : 1 ≤ M := by
              have := ten_pos (n := n) (j := 0) (by have := HN0.out; omega)
              rw [← HD.out] at this
              have := HTL.out
              have := HM.out
              rw [hl] at this
              omega
            clear hl
            go_wp2_with fail
            go_loopw [8, 9] (fun iv kv wr => ∃ i : Nat, 2 * i ≤ M + 1 ∧ iv = .int .i64 (i : Int) ∧ kv = .int .i64 ((M : Int) - 1 - (i : Int)) ∧ Hid (wr.owns w.heap.size 5 1 (.slice (some ⟨g, 0, none⟩) M vc2) M ((revTo l i).map u8V)) ∧ Hid (Below w.heap.size w wr)) (fun iv _ _ => M - (intOf iv).toNat)
            case atStart => exact ⟨0, by omega, rfl, by simp, by show World.owns _ _ _ _ _ _ _; rw [revTo_zero]; exact hO9.out, hB9.out⟩
            case round =>
              obtain ⟨i, hi, rfl, rfl, hO, hB⟩ := hrel
              by_cases hlt : (i : Int) < (M : Int) - 1 - (i : Int)
              · obtain ⟨k, hk⟩ : ∃ k, k = M - 1 - i := ⟨_, rfl⟩
                have ek : (M : Int) - 1 - (i : Int) = (k : Int) := by omega
                rw [ek] at hlt ⊢
                have hik : i < k := by omega
                have hkM : k < M := by omega
                have hgs := fun j hj => revTo_get l i j hj
                obtain ⟨x, hx⟩ : ∃ x, x = (revTo l i).getD i 0 := ⟨_, rfl⟩
                obtain ⟨y, hy⟩ : ∃ y, y = (revTo l i).getD k 0 := ⟨_, rfl⟩
                have hst := revTo_step l i k hik (by rw [← HM.out]; exact hk) (by rw [← HM.out]; exact hkM)
                rw [← hx, ← hy] at hst
                have hci : wr.cell? ⟨g, i, none⟩ = some (.int .u8 (x : Int)) := by
                  refine hO.out.cell i _ ?_
                  rw [List.getElem?_map, List.getElem?_eq_getElem (by rw [revTo_length, ← HM.out]; omega), hx, List.getD_eq_getElem?_getD, List.getElem?_eq_getElem (by rw [revTo_length, ← HM.out]; omega)]
                  rfl
                have hck : wr.cell? ⟨g, k, none⟩ = some (.int .u8 (y : Int)) := by
                  refine hO.out.cell k _ ?_
                  rw [List.getElem?_map, List.getElem?_eq_getElem (by rw [revTo_length, ← HM.out]; omega), hy, List.getD_eq_getElem?_getD, List.getElem?_eq_getElem (by rw [revTo_length, ← HM.out]; omega)]
                  rfl
                have hfi := owns_fz hO.out i (by omega)
                have hfk := owns_fz hO.out k hkM
                obtain ⟨-, -, hgw, -, -⟩ := hO.out.facts
                have w1 : IntKind.i64.wrap (i : Int) = (i : Int) := IntWalk.i64_in _ (by omega)
                have w2 : IntKind.i64.wrap (k : Int) = (k : Int) := IntWalk.i64_in _ (by omega)
                have w3 : (0 : Int) ≤ (i : Int) := by omega
                have w4 : (0 : Int) ≤ (k : Int) := by omega
                have w5 : (i : Int) < (M : Int) := by omega
                have w6 : (k : Int) < (M : Int) := by omega
                have w7 : ¬ i = k := by omega
                have w8 : ¬ k = i := by omega
                have e9 : (k : Int) - 1 = (M : Int) - 1 - ((i + 1 : Nat) : Int) := by omega
                have HST := Lib.hid hst
                have HE9 := Lib.hid e9
                have h2i : 2 * (i + 1) ≤ M + 1 := by omega
                clear hx hy hst hgs hk e9 ek
                go_wp2_with fail
                refine wp_region_late (fun w' => w'.cell? ⟨g, i, none⟩ = some (.int .u8 (x : Int)) ∧ w'.cell? ⟨g, k, none⟩ = some (.int .u8 (y : Int))) (fun j => decide (13 ≤ j)) (by kernel_rfl) ⟨hci, hck⟩ (fun hHeld => ?_)
                refine wpAnyD_takeW 0 (v := ?_) (by kernel_rfl) rfl (by kernel_rfl) (by kernel_rfl) (fun _ _ _ h => h) (Or.inl ⟨by rfl, ?_⟩) ?_
                rotate_left
                · (intro wq hSq; (try dsimp only at hSq); go_simp; try with_reducible rfl)
                try simp only [Act.put, List.setIfInBounds_toArray, List.set_cons_zero, List.set_cons_succ]
                refine wpAnyD_takeW 1 (v := ?_) (by kernel_rfl) rfl (by kernel_rfl) (by kernel_rfl) (fun _ _ _ h => h) (Or.inl ⟨by rfl, ?_⟩) ?_
                rotate_left
                · (intro wq hSq; (try dsimp only at hSq); go_simp; try with_reducible rfl)
                try simp only [Act.put, List.setIfInBounds_toArray, List.set_cons_zero, List.set_cons_succ]
                refine wpAnyD_takeW 2 (v := ?_) (by kernel_rfl) rfl (by kernel_rfl) (by kernel_rfl) (fun _ _ _ h => h) (Or.inl ⟨by rfl, ?_⟩) ?_
                rotate_left
                · (intro wq hSq; (try dsimp only at hSq); go_simp; try with_reducible rfl)
                try simp only [Act.put, List.setIfInBounds_toArray, List.set_cons_zero, List.set_cons_succ]
                refine wpAnyD_takeW 3 (v := ?_) (by kernel_rfl) rfl (by kernel_rfl) (by kernel_rfl) (fun _ _ _ h => h) (Or.inl ⟨by rfl, ?_⟩) ?_
                rotate_left
                · (intro wq hSq; (try dsimp only at hSq); go_simp; try with_reducible rfl)
                try simp only [Act.put, List.setIfInBounds_toArray, List.set_cons_zero, List.set_cons_succ]
                refine wpAnyD_takeW 4 (v := ?_) (by kernel_rfl) rfl (by kernel_rfl) (by kernel_rfl) (fun _ _ _ h => h) (Or.inl ⟨by rfl, ?_⟩) ?_
                rotate_left
                · (intro wq hSq; (try dsimp only at hSq); go_simp; try with_reducible rfl)
                try simp only [Act.put, List.setIfInBounds_toArray, List.set_cons_zero, List.set_cons_succ]
                refine wpAnyD_takeW 5 (v := ?_) (by kernel_rfl) rfl (by kernel_rfl) (by kernel_rfl) (fun _ _ _ h => h) (Or.inl ⟨by rfl, ?_⟩) ?_
                rotate_left
                · (intro wq hSq; (try dsimp only at hSq); go_simp; try with_reducible rfl)
                try simp only [Act.put, List.setIfInBounds_toArray, List.set_cons_zero, List.set_cons_succ]
                refine wpAnyD_takeW 6 (v := ?_) (by kernel_rfl) rfl (by kernel_rfl) (by kernel_rfl) (fun _ _ _ h => h) (Or.inl ⟨by rfl, ?_⟩) ?_
                rotate_left
                · (intro wq hSq; (try dsimp only at hSq); go_simp; try with_reducible rfl)
                try simp only [Act.put, List.setIfInBounds_toArray, List.set_cons_zero, List.set_cons_succ]
                refine wpAnyD_take 7 (v := ?_) (by kernel_rfl) (by kernel_rfl) rfl (by kernel_rfl) (by kernel_rfl) (fun _ _ _ h => h) (Or.inl ⟨by rfl, ?_⟩) (by assumption) ?_
                rotate_left
                · (intro wq hSq; (try dsimp only at hSq); go_simp; try with_reducible rfl)
                try simp only [Act.put, List.setIfInBounds_toArray, List.set_cons_zero, List.set_cons_succ]
                refine wpAnyD_takeW 8 (v := ?_) (by kernel_rfl) rfl (by kernel_rfl) (by kernel_rfl) (fun _ _ _ h => h) (Or.inl ⟨by rfl, ?_⟩) ?_
                rotate_left
                · (intro wq hSq; (try dsimp only at hSq); go_simp; try with_reducible rfl)
                try simp only [Act.put, List.setIfInBounds_toArray, List.set_cons_zero, List.set_cons_succ]
                refine wpAnyD_takeW 9 (v := ?_) (by kernel_rfl) rfl (by kernel_rfl) (by kernel_rfl) (fun _ _ _ h => h) (Or.inl ⟨by rfl, ?_⟩) ?_
                rotate_left
                · (intro wq hSq; (try dsimp only at hSq); go_simp; try with_reducible rfl)
                try simp only [Act.put, List.setIfInBounds_toArray, List.set_cons_zero, List.set_cons_succ]
                refine wpAnyD_takeW 10 (v := ?_) (by kernel_rfl) rfl (by kernel_rfl) (by kernel_rfl) (fun _ _ _ h => h) (Or.inl ⟨by rfl, ?_⟩) ?_
                rotate_left
                · (intro wq hSq; (try dsimp only at hSq); go_simp; try with_reducible rfl)
                try simp only [Act.put, List.setIfInBounds_toArray, List.set_cons_zero, List.set_cons_succ]
                refine wpAnyD_take 11 (v := ?_) (by kernel_rfl) (by kernel_rfl) rfl (by kernel_rfl) (by kernel_rfl) (fun _ _ _ h => h) (Or.inl ⟨by rfl, ?_⟩) (by assumption) ?_
                rotate_left
                · (intro wq hSq; (try dsimp only at hSq); go_simp; try with_reducible rfl)
                try simp only [Act.put, List.setIfInBounds_toArray, List.set_cons_zero, List.set_cons_succ]
                refine wpAnyD_takeW 12 (v := ?_) (by kernel_rfl) rfl (by kernel_rfl) (by kernel_rfl) (fun _ _ _ h => h) (Or.inl ⟨by rfl, ?_⟩) ?_
                rotate_left
                · (intro wq hSq; (try dsimp only at hSq); go_simp; try with_reducible rfl)
                try simp only [Act.put, List.setIfInBounds_toArray, List.set_cons_zero, List.set_cons_succ]
                refine wpAnyD_step 13 (by kernel_rfl) rfl rfl (fun K hK => ?_)
                go_simp
                refine hK.out _ _ ?_
                clear hK K
                try simp only [Act.put, List.setIfInBounds_toArray, List.set_cons_zero, List.set_cons_succ]
                refine wpAnyD_takeW 14 (v := ?_) (by kernel_rfl) rfl (by kernel_rfl) (by kernel_rfl) (fun _ _ _ h => h) (Or.inl ⟨by rfl, ?_⟩) ?_
                rotate_left
                · (intro wq hSq; (try dsimp only at hSq); go_simp; try with_reducible rfl)
                try simp only [Act.put, List.setIfInBounds_toArray, List.set_cons_zero, List.set_cons_succ]
                refine wpAnyD_step 15 (by kernel_rfl) rfl rfl (fun K hK => ?_)
                go_simp
                refine hK.out _ _ ?_
                clear hK K
                try simp only [Act.put, List.setIfInBounds_toArray, List.set_cons_zero, List.set_cons_succ]
                refine wpAnyD_end (by kernel_rfl) ?_
                go_wp2
                clear w1 w2
                go_roundw
                case rel =>
                  refine ⟨i + 1, h2i, by go_num, by rw [HE9.out], ?_, ((hB.out.setCell hgw _).setCell hgw _).drew⟩
                  show World.owns _ _ _ _ _ _ _
                  rw [HST.out, List.map_set, List.map_set]
                  exact ((hO.out.setOwn i (u8V y)).setOwn k (u8V x)).drew
                case measure => simp [intOf]; omega
              · have hdone := revTo_done l i (by rw [← HM.out]; omega)
                have ho := hO.out
                rw [hdone] at ho
                have hcv := own_string ho (fun x hx => by
                  rw [HLL.out, textN] at hx
                  rcases List.mem_append.1 (List.mem_reverse.1 hx) with h | h
                  · have := decDig_lt _ _ x h; omega
                  · split at h
                    · rw [List.mem_singleton.1 h]; omega
                    · cases h) 9 Try.underlying9
                obtain ⟨T, hT⟩ : ∃ T : ByteArray, T = ⟨(l.reverse.map UInt8.ofNat).toArray⟩ := ⟨_, rfl⟩
                rw [← hT] at hcv
                have HT := Lib.hid hT
                clear hT hdone ho
                go_wp2
                rw [HP.out]
                refine ⟨?_, hB.out⟩
                rw [HV.out, ← HN.out]
                have : textB neg n = T := by
                  unfold textB textL
                  rw [if_neg HN0.out, HT.out, HLL.out]
                rw [this]
                rfl
        · have hmD := ten_pos hz
          rw [← HD.out] at hmD
          obtain ⟨N, hN⟩ : ∃ N, N = n / 10 ^ m := ⟨_, rfl⟩
          rw [← hN] at hL hA hz
          have hLp : 0 < L := by rw [hL.out]; exact wd_pos hz
          have hLp' : (0 : Int) < (L : Int) := by omega
          have hNl : (wd N).length ≤ 2000 := by
            have h1 := words_length (B := 4294967296) (by omega) N 64 (by
              have := wd_vlt n
              have h2 : N ≤ n := by rw [hN]; exact Nat.div_le_self _ _
              exact Nat.lt_of_le_of_lt h2 (Nat.lt_of_lt_of_le this (Nat.pow_le_pow_right (by omega) HWL.out)))
            unfold wd; omega
          obtain ⟨wo, hwo⟩ : ∃ x, x = wr := ⟨_, rfl⟩
          rw [← hwo] at hA hO hW hB ⊢
          have HNN := Lib.hid hN
          have HZ := Lib.hid hz
          clear hwo hN hz
          go_wp2_with fail
          (with_reducible refine (short_num N 1000000000 (by omega) (by omega) _ wo hA.out hNl (1000000000 : Int) rfl).mono ?_)
          rintro e w5 ⟨v5, rfl, hr5⟩
          obtain ⟨v6, hv6, ho5, hb5⟩ := hr5
          injection hv6 with hv6
          subst hv6
          obtain ⟨a5, c5, hv5, -, -, -⟩ := ho5.at_
          subst hv5
          obtain ⟨q, hq⟩ : ∃ q, q = N / 1000000000 := ⟨_, rfl⟩
          obtain ⟨r0, hr0⟩ : ∃ r, r = N % 1000000000 := ⟨_, rfl⟩
          rw [← hq] at ho5 ⊢
          rw [← hr0]
          obtain ⟨Lq, hLq⟩ : ∃ L, L = (wd q).length := ⟨_, rfl⟩
          rw [← hLq] at ho5 ⊢
          have hr9 : r0 < 1000000000 := by rw [hr0]; exact Nat.mod_lt _ (by omega)
          have hO5 := hO.out.below hb5
          have hW5 := (hb5.block _ (lt_of_heap hW.out)).trans hW.out
          have HO5 := Lib.hid hO5
          have HW5 := Lib.hid hW5
          have HQ5 := Lib.hid ho5
          have HBW5 := Lib.hid (hB.out.trans (hb5.mono hB.out.size))
          have HQ := Lib.hid hq
          have HR0 := Lib.hid hr0
          have HLQ := Lib.hid hLq
          clear ho5 hb5 hO5 hW5 hq hr0 hLq
          go_wp2_with fail
          go_loopw [4, 6, 7] (fun sv rv kv wr => ∃ (k r : Nat) (va : Option Addr) (vc : Nat), k ≤ 9 ∧ kv = .int .i64 (k : Int) ∧ rv = .int .u32 (r : Int) ∧ sv = .slice va (m + k) vc ∧ Hid (r = N % 1000000000 / 10 ^ k) ∧ m + k ≤ D ∧ Hid (wr.owns w.heap.size 5 1 (.slice va (m + k) vc) (m + k) ((decDig n (m + k)).map u8V)) ∧ Hid (wr.owns wo.heap.size 47 1 (.slice a5 Lq c5) Lq ((wd q).map u32V)) ∧ Hid (wr.heap[w.heap.size]? = some (.cells #[.bool neg, .string s] 23)) ∧ Hid (Below w.heap.size w wr)) (fun _ _ kv _ => 9 - (intOf kv).toNat)
          case atStart => exact ⟨0, r0, va, vc, by omega, rfl, rfl, rfl, by show _ = _; rw [Nat.pow_zero, Nat.div_one]; exact HR0.out, hm, HO5.out, HQ5.out, HW5.out, HBW5.out⟩
          case round =>
            obtain ⟨k, r, va2, vc2, hk, rfl, rfl, rfl, hr, hmk, hO2, hQ2, hW2, hB2⟩ := hrel
            have hr32 : r < 1000000000 := by
              rw [hr.out]
              exact Nat.lt_of_le_of_lt (Nat.div_le_self _ _) (Nat.mod_lt _ (by omega))
            by_cases hgo : k < 9 ∧ (0 < r ∨ 0 < Lq)
            · obtain ⟨hk9, hrl⟩ := hgo
              have hd : Hid (dig 10 n (m + k) = r % 10) := by show _ = _; rw [dig_ten n m k hk9, ← HNN.out, ← hr.out]
              have hpos : n / 10 ^ (m + k) ≠ 0 := by
                rw [div_pow_add, ← HNN.out, dec_split N k (by omega), ← hr.out, ← HQ.out]
                rcases hrl with h | h
                · omega
                · have hq0 : q ≠ 0 := by
                    intro h0
                    have := HLQ.out
                    rw [h0] at this
                    have h2 : (wd 0).length = 0 := rfl
                    omega
                  have := Nat.mul_pos (Nat.pos_of_ne_zero hq0) (Nat.pow_pos (show 0 < 10 by omega) (n := 9 - k))
                  omega
              have hmkD : m + k < D := by rw [HD.out]; exact ten_pos hpos
              have hk9' : (k : Int) < 9 := by omega
              obtain ⟨dd, hdd⟩ : ∃ d, d = r % 10 := ⟨_, rfl⟩
              have e1 : (r : Int) % 10 = (dd : Int) := by omega
              obtain ⟨r2, hr2⟩ : ∃ x, x = r / 10 := ⟨_, rfl⟩
              have e2 : (r : Int) / 10 = (r2 : Int) := by omega
              have HR2 : Hid (r2 = N % 1000000000 / 10 ^ (k + 1)) := by show _ = _; rw [hr2, hr.out, Nat.div_div_eq_div_mul, Nat.pow_succ]
              have hdd10 : dd < 10 := by omega
              have e3 : (48 + (dd : Int)) % 256 = ((48 + dd : Nat) : Int) := by omega
              obtain ⟨ch, hch⟩ : ∃ c, c = 48 + dd := ⟨_, rfl⟩
              have e4 : 48 + (dd : Int) = (ch : Int) := by omega
              have e5 : (ch : Int) % 256 = (ch : Int) := by omega
              have HCH : Hid (ch = 48 + dig 10 n (m + k)) := by show _ = _; rw [hd.out, hch, hdd]
              have hszW := hB2.out.size
              clear hpos hdd hr2 hch e3
              by_cases hr0' : 0 < r
              · have hr0'' : (0 : Int) < (r : Int) := by omega
                go_wp2_with (at_builtin; refine app_u8 wr rfl (.tmp 39) (.tmp 44) rfl w.heap.size (.slice va2 (m + k) vc2) (m + k) _ rfl hO2.out (ch : Int) wr.heap.size rfl rfl (by omega) hszW ?_; intro v7 w7 hown7 hg7 hz7; have HO7 := Lib.hid hown7; obtain ⟨g7, q7, rfl⟩ := hown7.succ; have HB7 := Lib.hid (below_grown2 hB2.out hO2.out hg7); have HQ7 := Lib.hid (hQ2.out.keptBy (fun g c fz _ hg => hg7.block g (lt_of_heap hg) (Ne.symm (hO2.out.ne hg (by decide))))); have HW7 := Lib.hid ((hg7.block _ (lt_of_heap hW2.out) (Ne.symm (hO2.out.ne hW2.out (by decide)))).trans hW2.out); clear hown7 hg7)
                go_roundw
                case rel =>
                  refine ⟨k + 1, r2, some ⟨g7, 0, none⟩, q7, by omega, by go_num, rfl, rfl, HR2.out, by omega, ?_, HQ7.out, HW7.out, HB7.out⟩
                  show World.owns _ _ _ _ _ _ _
                  rw [← Nat.add_assoc, decDig_succ, List.map_append, ← HCH.out]
                  exact HO7.out
                case measure => simp [intOf]; omega
              · have hr00 : r = 0 := by omega
                have hch48 : ch = 48 := by omega
                have hr20 : r2 = 0 := by omega
                have hLq0 : 0 < Lq := by omega
                have hLq1 : (0 : Int) < (Lq : Int) := by omega
                clear e1 e2 e4 e5 hdd10 hrl hr0' hr32
                subst hr00 hch48 hr20
                go_wp2_with (at_builtin; refine app_u8 wr rfl (.tmp 39) (.tmp 44) rfl w.heap.size (.slice va2 (m + k) vc2) (m + k) _ rfl hO2.out (48 : Int) wr.heap.size rfl rfl (by omega) hszW ?_; intro v7 w7 hown7 hg7 hz7; have HO7 := Lib.hid hown7; obtain ⟨g7, q7, rfl⟩ := hown7.succ; have HB7 := Lib.hid (below_grown2 hB2.out hO2.out hg7); have HQ7 := Lib.hid (hQ2.out.keptBy (fun g c fz _ hg => hg7.block g (lt_of_heap hg) (Ne.symm (hO2.out.ne hg (by decide))))); have HW7 := Lib.hid ((hg7.block _ (lt_of_heap hW2.out) (Ne.symm (hO2.out.ne hW2.out (by decide)))).trans hW2.out); clear hown7 hg7)
                go_roundw
                case rel =>
                  refine ⟨k + 1, 0, some ⟨g7, 0, none⟩, q7, by omega, by go_num, rfl, rfl, HR2.out, by omega, ?_, HQ7.out, HW7.out, HB7.out⟩
                  show World.owns _ _ _ _ _ _ _
                  rw [← Nat.add_assoc, decDig_succ, List.map_append, ← HCH.out]
                  exact HO7.out
                case measure => simp [intOf]; omega
            · have hend : Hid (n / 10 ^ (m + k) = q) := by
                show _ = _
                rw [div_pow_add, ← HNN.out, dec_split N k hk, ← hr.out, ← HQ.out]
                by_cases hk9 : k < 9
                · have h0 : r = 0 ∧ Lq = 0 := by omega
                  have hq0 : q = 0 := by
                    rcases Nat.eq_zero_or_pos q with h | h
                    · exact h
                    · have := wd_pos (show q ≠ 0 by omega)
                      have := HLQ.out
                      omega
                  rw [h0.1, hq0]; simp
                · have h9 : k = 9 := by omega
                  subst h9
                  have := hr.out
                  rw [Nat.div_eq_of_lt (Nat.mod_lt N (by omega))] at this
                  rw [this]; simp
              have hmlt : Hid (m < m + k) := by
                show _ < _
                rcases Nat.eq_zero_or_pos k with h | h
                · exfalso
                  have h1 := hend.out
                  rw [h, Nat.add_zero, ← HNN.out] at h1
                  have h2 := HQ.out
                  have h3 := HZ.out
                  have : N / 1000000000 < N := Nat.div_lt_self (by omega) (by omega)
                  omega
                · omega
              by_cases hk9 : k < 9
              · have hk9' : (k : Int) < 9 := by omega
                have hr01 : ¬ (0 : Int) < (r : Int) := by omega
                have hLq1 : ¬ (0 : Int) < (Lq : Int) := by omega
                go_wp2_with fail
                go_roundw
                case rel => exact ⟨m + k, Lq, a5, c5, va2, vc2, hmk, rfl, rfl, by show _ = _; rw [hend.out]; exact HLQ.out, by show World.numR _ _ _; rw [hend.out]; exact hQ2.out.reads, hO2.out, hW2.out, hB2.out⟩
                case measure => have := hmlt.out; simp [lenOf]; omega
              · have hk9' : ¬ (k : Int) < 9 := by omega
                go_wp2_with fail
                go_roundw
                case rel => exact ⟨m + k, Lq, a5, c5, va2, vc2, hmk, rfl, rfl, by show _ = _; rw [hend.out]; exact HLQ.out, by show World.numR _ _ _; rw [hend.out]; exact hQ2.out.reads, hO2.out, hW2.out, hB2.out⟩
                case measure => have := hmlt.out; simp [lenOf]; omega
end Go.Proofs.Ytdfklcmiagmgaaa
