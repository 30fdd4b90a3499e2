/- Laws of the disk: acts that are too long; an index that a number determines. -/
import Derived.Test.YtjfmcobikadjhaaDL3
import Derived.Test.YtjfmcobikadjhaaOpenA
namespace Go.Proofs.Ytjfmcobikadjhaa
set_option linter.all false
open Go.RowKit Go.Shelf
theorem rem_run (n m q : Int) (hm : m ≠ 0) (hq : n.tmod m = q) (w : World) : (binOp .rem 3 (.int .i64 n) (.int .i64 m)).run Try.prog w = .ok (.int .i64 q) w := by
  rw [binOp_rem]
  unfold Op.intDiv
  simp [hm, hq]
set_option maxRecDepth 100000 in
theorem Pick_any (n : Int) (hn : -9223372036854775808 ≤ n ∧ n ≤ 9223372036854775807) (w : World) :
    Calls Try.prog 10 #[.int .i64 n, .int .i64 2900] w fun e w' => (∃ k : Nat, k < 2900 ∧ e = .returned (.int .i64 (k : Int))) ∧ w = w' := by
  obtain ⟨q, hq⟩ : ∃ q, q = n.tmod 2900 := ⟨_, rfl⟩
  have h1 : -2900 < q ∧ q < 2900 := by
    rw [hq]
    rcases Int.le_total 0 n with h | h
    · have := Int.tmod_nonneg 2900 h
      have := Int.tmod_lt_of_pos n (show (0 : Int) < 2900 by omega)
      omega
    · have h2 := Int.tmod_nonneg 2900 (show 0 ≤ -n by omega)
      have h3 := Int.tmod_lt_of_pos (-n) (show (0 : Int) < 2900 by omega)
      rw [Int.neg_tmod] at h2 h3
      omega
  have HQ := Lib.hid hq
  have H1 := Lib.hid h1
  clear hq h1
  by_cases h0 : n.tmod 2900 < 0
  · have H0 := Lib.hid h0
    go_enter Try.func10, Try.ntmps10
    go_wp2
    go_ret
    have h1 := H1.out
    have h0 := H0.out
    rw [← HQ.out] at h0
    refine ⟨⟨(q + 2900).toNat, by omega, ?_⟩, rfl⟩
    show Ending.returned (.int .i64 (wrap64 (n.tmod 2900 + 2900))) = _
    rw [← HQ.out, IntWalk.wrap64_in _ ⟨by omega, by omega⟩, Int.toNat_of_nonneg (by omega)]
  · have H0 := Lib.hid h0
    go_enter Try.func10, Try.ntmps10
    go_wp2
    go_ret
    have h1 := H1.out
    have h0 := H0.out
    rw [← HQ.out] at h0
    refine ⟨⟨q.toNat, by omega, ?_⟩, rfl⟩
    show Ending.returned (.int .i64 (n.tmod 2900)) = _
    rw [← HQ.out, Int.toNat_of_nonneg (by omega)]
def longAct (x : ActR) : Bool := longB [x.text] 70000 || longB x.list 70000
def longA (l : List ActR) (m : Nat) : Bool := l.any longAct || decide (m < l.length)
/-- The acts lie in a world. -/
def ActsAt (w : World) (B : Nat) (a : Option Addr) (l : List ActR) : Prop :=
  ∀ (j : Nat) (x : ActR), l[j]? = some x → ∃ b off, a = some ⟨b, off, none⟩ ∧ b < B ∧ ActAt w B b (off + j * 4) x ∧ x.wf
theorem ActsAt.below {w w' : World} {B : Nat} {a : Option Addr} {l : List ActR} (h : ActsAt w B a l) (hb : Below B w w') : ActsAt w' B a l := fun j x hx => by
  obtain ⟨b, off, h1, h2, h3, h4⟩ := h j x hx
  obtain ⟨v, h5, h6⟩ := h3.c3
  exact ⟨b, off, h1, h2, ⟨(hb.cell (p := ⟨b, _, none⟩) h2).trans h3.c0, (hb.cell (p := ⟨b, _, none⟩) h2).trans h3.c1, (hb.cell (p := ⟨b, _, none⟩) h2).trans h3.c2, v, (hb.cell (p := ⟨b, _, none⟩) h2).trans h5, h6.below hb⟩, h4⟩
set_option maxRecDepth 100000 in
set_option maxHeartbeats 4000000 in
theorem long_any (l : List ActR) (a : Option Addr) (cap : Nat) (hl : l.length ≤ maxLen) (w : World) (h : ActsAt w w.heap.size a l) :
    Calls Try.prog 7 #[.slice a l.length cap, .int .i64 60] w fun e w' => e = .returned (.bool (longA l 60)) ∧ Below w.heap.size w w' := by
  obtain ⟨R, hR⟩ : ∃ R, R = longA l 60 := ⟨_, rfl⟩
  rw [← hR]
  obtain ⟨n, hn⟩ : ∃ n, n = l.length := ⟨_, rfl⟩
  rw [← hn] at hl ⊢
  have hn63 : n ≤ 9223372036854775807 := hl
  have HR := Lib.hid hR
  have HN := Lib.hid hn
  have HA := Lib.hid h
  clear hR hn h hl
  go_enter Try.func7, Try.ntmps7
  go_wp2_with fail
  go_loopw [5] (fun iv wr => ∃ k : Nat, k ≤ n ∧ iv = .int .i64 (k : Int) ∧ Hid (Below w.heap.size w wr) ∧ Hid (∀ x ∈ l.take k, longAct x = false)) (fun iv _ => n - (intOf iv).toNat)
  case atStart => exact ⟨0, Nat.zero_le _, rfl, Below.refl _ _, fun x hx => by simp at hx⟩
  case round =>
    obtain ⟨k, hk, rfl, hB, hS⟩ := hrel
    by_cases hlt : k < n
    · obtain ⟨x, hx⟩ : ∃ x, l[k]? = some x := ⟨l[k]'(by rw [← HN.out]; exact hlt), List.getElem?_eq_getElem _⟩
      obtain ⟨b, off, rfl, hb, ha, hw⟩ := HA.out k x hx
      have hcT : wr.cell? ⟨b, off + k * 4 + 2, none⟩ = some (.string x.text) := (hB.out.cell (p := ⟨b, off + k * 4 + 2, none⟩) hb).trans ha.c2
      obtain ⟨lv, hl1, hl2⟩ := ha.c3
      have hB2 : Below wr.heap.size wr (wr.alloc (.cells #[.string x.text] 9)) := (Below.refl _ wr).alloc (Nat.le_refl _) _
      have hcL : (wr.alloc (.cells #[.string x.text] 9)).cell? ⟨b, off + k * 4 + 3, none⟩ = some lv := (hB2.cell (p := ⟨b, off + k * 4 + 3, none⟩) (Nat.lt_of_lt_of_le hb hB.out.size)).trans ((hB.out.cell (p := ⟨b, off + k * 4 + 3, none⟩) hb).trans hl1)
      have HT : Hid ((wr.alloc (.cells #[.string x.text] 9)).reads (wr.alloc (.cells #[.string x.text] 9)).heap.size (.slice (some ⟨wr.heap.size, 0, none⟩) 1 1) ([x.text].map Value.string)) := reads_one wr (.string x.text) 9
      have HLV : Hid ((wr.alloc (.cells #[.string x.text] 9)).reads (wr.alloc (.cells #[.string x.text] 9)).heap.size lv (x.list.map Value.string)) := (hl2.below (hB.out.trans (hB2.mono hB.out.size))).mono (Nat.le_trans hB.out.size hB2.size)
      have HLN : Hid (x.list.length ≤ 9223372036854775807) := hw.w3
      have HX := Lib.hid hx
      have HB3 : Hid (Below w.heap.size w (wr.alloc (.cells #[.string x.text] 9))) := hB.out.trans (hB2.mono hB.out.size)
      clear hx ha hl1 hl2 hw hB2
      have hml : x ∈ l := List.mem_of_getElem? HX.out
      have HML := Lib.hid hml
      clear hml
      go_wp2_with fail
      refine (Long_any [x.text] 70000 (by omega) (by simp) _ _ HT.out).mono ?_
      rintro e w2 ⟨he, rfl⟩
      have hlong : ∀ (h : longAct x = true), R = true := fun h => by
        rw [HR.out]; unfold longA
        rw [List.any_eq_true.2 ⟨x, HML.out, h⟩]; rfl
      have HLG := Lib.hid hlong
      clear hlong
      cases hb1 : longB [x.text] 70000
      case true =>
        rw [hb1] at he
        subst he
        have hRt : R = true := HLG.out (by unfold longAct; rw [hb1]; rfl)
        have HRT := Lib.hid hRt
        clear hRt hb1
        go_wp2
        go_ret
        rw [HRT.out]
        exact ⟨rfl, HB3.out⟩
      case false =>
        rw [hb1] at he
        subst he
        have HB1 := Lib.hid hb1
        clear hb1
        go_wp2_with fail
        refine (Long_any x.list 70000 (by omega) HLN.out lv _ HLV.out).mono ?_
        rintro e w2 ⟨he, rfl⟩
        cases hb2 : longB x.list 70000
        case true =>
          rw [hb2] at he
          subst he
          have hRt : R = true := HLG.out (by unfold longAct; rw [hb2, Bool.or_true])
          have HRT := Lib.hid hRt
          clear hRt hb2
          go_wp2
          go_ret
          rw [HRT.out]
          exact ⟨rfl, HB3.out⟩
        case false =>
          rw [hb2] at he
          subst he
          have HB2 := Lib.hid hb2
          clear hb2
          go_wp2
          go_roundw
          case rel =>
            refine ⟨k + 1, by omega, by go_num, HB3.out, fun y hy => ?_⟩
            rw [List.take_add_one, HX.out] at hy
            rcases List.mem_append.1 hy with hy | hy
            · exact hS.out y hy
            · have e : y = x := by simpa using hy
              subst e
              unfold longAct
              rw [HB1.out, HB2.out]; rfl
          case measure => simp [intOf]; omega
    · obtain rfl : k = n := by omega
      have hno : l.any longAct = false := by
        rw [List.any_eq_false]
        intro x hx
        have := hS.out x (by rw [List.take_of_length_le (by rw [← HN.out]; exact Nat.le_refl _)]; exact hx)
        rw [this]; simp
      have hRe : R = decide (60 < k) := by rw [HR.out]; unfold longA; rw [hno, ← HN.out]; rfl
      have HRE := Lib.hid hRe
      clear hno hRe
      by_cases h60 : 60 < k
      · have h60' : (60 : Int) < (k : Int) := by omega
        go_wp2
        go_ret
        rw [HRE.out]
        exact ⟨by rw [decide_eq_true h60]; rfl, hB.out⟩
      · have h60' : ¬ (60 : Int) < (k : Int) := by omega
        go_wp2
        go_ret
        rw [HRE.out]
        exact ⟨by rw [decide_eq_false h60]; rfl, hB.out⟩
end Go.Proofs.Ytjfmcobikadjhaa
