/- Helpers and walks, in one text. -/
import Derived.Test.YtkjlfjnncdkmlaaPF2
import Derived.Sort.CutIn
import Derived.Laws.CopyRow
/- Wide integers: helpers and walks, in one text (WD1 WM8 WD2 HeldD WM9 WD3 WD4). -/
/- Walks: the form of an integer. -/
namespace Go.Proofs.Ytkjlfjnncdkmlaa
set_option linter.all false
open Go.RowKit Go.Shelf Go.WideNum
theorem two_new (x y : Nat) (w : World) : (w.alloc (.cells #[.int .u32 (x : Int), .int .u32 (y : Int)] 22)).reads (w.alloc (.cells #[.int .u32 (x : Int), .int .u32 (y : Int)] 22)).heap.size (.slice (some ⟨w.heap.size, 0, none⟩) 2 2) ([x, y].map u32V) := by
  have := reads_alloc_new w [u32V x, u32V y] 22 2 (by simp) (by unfold maxLen; omega)
  simpa [u32V] using this
theorem lim_big : 18446744073709551616 < lim := by
  unfold lim
  have h : (256 : Nat) ^ 9 ≤ 256 ^ 256 := Nat.pow_le_pow_right (by omega) (by omega)
  have h2 : (256 : Nat) ^ 9 = 4722366482869645213696 := by decide
  omega
theorem wide_set {W : World} {g : Nat} {u0 u1 : Value} (h : W.heap[g]? = some (.cells #[u0, u1] 42)) (neg : Bool) (s : ByteArray) :
    ((W.setCell ⟨g, 0, none⟩ (.bool neg)).setCell ⟨g, 1, none⟩ (.string s)).heap[g]? = some (.cells #[.bool neg, .string s] 42) := by
  simp [World.setCell, Array.getElem?_modify, h]
theorem wide_cells {W : World} {g : Nat} {neg : Bool} {s : ByteArray} (h : W.heap[g]? = some (.cells #[.bool neg, .string s] 42)) :
    W.cell? ⟨g, 0, none⟩ = some (.bool neg) ∧ W.cell? ⟨g, 1, none⟩ = some (.string s) ∧ ∀ o, W.frozen? ⟨g, o, none⟩ = false :=
  ⟨by rw [cell_of_row W _ _ _ _ (0, 0) h]; rfl, by rw [cell_of_row W _ _ _ _ (0, 0) h]; rfl, fun o => by simp [World.frozen?, h]⟩
set_option maxRecDepth 100000 in
set_option maxHeartbeats 4000000 in
theorem Of_any (n : Int) (h1 : -9223372036854775808 ≤ n) (h2 : n < 9223372036854775808) (w : World) :
    Calls Try.prog 85 #[.int .i64 n] w fun e w' => e = .returned (outZ n) ∧ Below w.heap.size w w' := by
  obtain ⟨m, hm⟩ : ∃ m, m = n.natAbs := ⟨_, rfl⟩
  obtain ⟨lo, hlo⟩ : ∃ lo, lo = m % 4294967296 := ⟨_, rfl⟩
  obtain ⟨hi, hhi⟩ : ∃ hi, hi = m / 4294967296 := ⟨_, rfl⟩
  have hv : valW 4294967296 [lo, hi] = m := by simp only [valW]; omega
  have hil : hi < 4294967296 := by omega
  have hlim : n.natAbs < lim := by have := lim_big; omega
  obtain ⟨nb, hnb⟩ : ∃ nb, nb = decide (n < 0) := ⟨_, rfl⟩
  have hz : zOf nb m = n := by
    rw [hnb, hm]; unfold zOf
    by_cases h : n < 0
    · rw [decide_eq_true h, if_pos rfl]; omega
    · rw [decide_eq_false h]; simp; omega
  have hform : ∀ (a : Option Addr) (W : World), W.reads W.heap.size (.slice a 2 2) ([lo, hi].map u32V) → Calls Try.prog 102 #[.slice a 2 2, .bool nb] W fun e w' => e = .returned (.tuple #[wideV nb (magB m), .int .i64 0]) ∧ Below W.heap.size W w' := by
    intro a W hr
    have := form_any [lo, hi] (by simp; omega) (by simp) nb (.slice a 2 2) W hr
    rw [hv] at this
    refine this.mono ?_
    rintro e w' ⟨rfl, hb⟩
    refine ⟨?_, hb⟩
    rw [outB_z nb, outE_z nb, hz, (outZ_in n hlim).1, (outZ_in n hlim).2, ← hnb, ← hm]
  have HF := Lib.hid hform
  have hout : outZ n = wideV nb (magB m) := by rw [(outZ_in n hlim).1, ← hnb, ← hm]
  rw [hout]
  obtain ⟨S, hS⟩ : ∃ S, S = magB m := ⟨_, rfl⟩
  rw [← hS] at HF ⊢
  unfold wideV at HF ⊢
  have t3 : (m : Int) % 4294967296 = (lo : Int) := by omega
  have t4 : (m : Int) / 4294967296 % 4294967296 = (hi : Int) := by omega
  by_cases hn : n < 0
  · obtain ⟨a, ha⟩ : ∃ a : Nat, (a : Int) = n + 18446744073709551616 := ⟨(n + 18446744073709551616).toNat, by omega⟩
    have t1 : IntKind.u64.wrap n = (a : Int) := by rw [IntKind.wrap_u64]; omega
    have t2 : IntKind.u64.wrap (-(a : Int)) = (m : Int) := by rw [IntKind.wrap_u64]; omega
    have hnb2 : nb = true := by rw [hnb]; exact decide_eq_true hn
    subst hnb2
    clear hnb ha hm hlo hhi hv hform hout hS hlim hz h1 h2
    go_enter Try.func85, Try.ntmps85
    go_wp2_with fail
    have hb0 : Below w.heap.size w ((w.alloc (.cells #[.bool false, .string ⟨#[]⟩] 42)).alloc (.cells #[.int .u32 (lo : Int), .int .u32 (hi : Int)] 22)) := ((Below.refl _ w).alloc (Nat.le_refl _) _).alloc (by simp) _
    have hg0 : ((w.alloc (.cells #[.bool false, .string ⟨#[]⟩] 42)).alloc (.cells #[.int .u32 (lo : Int), .int .u32 (hi : Int)] 22)).heap[w.heap.size]? = some (.cells #[.bool false, .string ⟨#[]⟩] 42) := by
      rw [Below.heap_alloc _ _ _ (by simp)]; exact heap_alloc_new w _
    have htw := two_new lo hi (w.alloc (.cells #[.bool false, .string ⟨#[]⟩] 42))
    have esz : (w.alloc (.cells #[.bool false, .string ⟨#[]⟩] 42)).heap.size = w.heap.size + 1 := World.size_alloc _ _
    simp only [esz] at htw
    clear esz
    generalize (w.alloc (.cells #[.bool false, .string ⟨#[]⟩] 42)).alloc (.cells #[.int .u32 (lo : Int), .int .u32 (hi : Int)] 22) = W1 at hb0 hg0 htw ⊢
    have hsz := hb0.size
    have hlt1 := lt_of_heap hg0
    (with_reducible refine (HF.out _ W1 htw).mono ?_)
    rintro e w3 ⟨rfl, hb3⟩
    have hg3 := (hb3.block _ hlt1).trans hg0
    have hsz3 := hb3.size
    have c0 : w3.cell? ⟨w.heap.size, 0, none⟩ = some (.bool false) := by rw [cell_of_row w3 _ _ _ _ (0, 0) hg3]; rfl
    have c1 : w3.cell? ⟨w.heap.size, 1, none⟩ = some (.string ⟨#[]⟩) := by rw [cell_of_row w3 _ _ _ _ (0, 0) hg3]; rfl
    have f0 : ∀ o, w3.frozen? ⟨w.heap.size, o, none⟩ = false := fun o => by simp [World.frozen?, hg3]
    have hsl : w.heap.size < w3.heap.size := by omega
    have hsn : ¬ w.heap.size = w3.heap.size := by omega
    have hsn2 : ¬ w3.heap.size = w.heap.size := by omega
    have HB := Lib.hid (hb0.trans (hb3.mono hsz))
    clear hg0 hb0 htw hb3 hlt1 hsz hsz3
    go_wp2
    have hg9 : (((w3.setCell ⟨w.heap.size, 0, none⟩ (.bool true)).setCell ⟨w.heap.size, 1, none⟩ (.string S)).alloc (.cells #[.bool true, .string S] 42)).heap[w.heap.size]? = some (.cells #[.bool true, .string S] 42) := by
      rw [Below.heap_alloc _ _ _ (by simp; omega)]; exact wide_set hg3 true S
    obtain ⟨d0, d1, -⟩ := wide_cells hg9
    have hb9 : Below w.heap.size w (((w3.setCell ⟨w.heap.size, 0, none⟩ (.bool true)).setCell ⟨w.heap.size, 1, none⟩ (.string S)).alloc (.cells #[.bool true, .string S] 42)) := ((HB.out.setCell (by simp) _).setCell (by simp) _).alloc (by simp; omega) _
    generalize ((w3.setCell ⟨w.heap.size, 0, none⟩ (.bool true)).setCell ⟨w.heap.size, 1, none⟩ (.string S)).alloc (.cells #[.bool true, .string S] 42) = W9 at d0 d1 hb9 ⊢
    exact bodyPost_ret (v := .agg #[.bool true, .string S]) (by simp [results, Try.results85, go_sem, d0, d1]) rfl ⟨rfl, hb9⟩
  · have t1 : IntKind.u64.wrap n = (m : Int) := by rw [IntKind.wrap_u64]; omega
    have t5 : (m : Int) / 4294967296 = (hi : Int) := by omega
    have t1b : n % 18446744073709551616 = (m : Int) := by omega
    have hnb2 : nb = false := by rw [hnb]; exact decide_eq_false hn
    subst hnb2
    have hnm : n = (m : Int) := by omega
    subst hnm
    clear hnb hm hlo hhi hv hform hout hS hlim hz h1 h2
    go_enter Try.func85, Try.ntmps85
    go_wp2_with fail
    have hb0 : Below w.heap.size w ((w.alloc (.cells #[.bool false, .string ⟨#[]⟩] 42)).alloc (.cells #[.int .u32 (lo : Int), .int .u32 (hi : Int)] 22)) := ((Below.refl _ w).alloc (Nat.le_refl _) _).alloc (by simp) _
    have hg0 : ((w.alloc (.cells #[.bool false, .string ⟨#[]⟩] 42)).alloc (.cells #[.int .u32 (lo : Int), .int .u32 (hi : Int)] 22)).heap[w.heap.size]? = some (.cells #[.bool false, .string ⟨#[]⟩] 42) := by
      rw [Below.heap_alloc _ _ _ (by simp)]; exact heap_alloc_new w _
    have htw := two_new lo hi (w.alloc (.cells #[.bool false, .string ⟨#[]⟩] 42))
    have esz : (w.alloc (.cells #[.bool false, .string ⟨#[]⟩] 42)).heap.size = w.heap.size + 1 := World.size_alloc _ _
    simp only [esz] at htw
    clear esz
    generalize (w.alloc (.cells #[.bool false, .string ⟨#[]⟩] 42)).alloc (.cells #[.int .u32 (lo : Int), .int .u32 (hi : Int)] 22) = W1 at hb0 hg0 htw ⊢
    have hsz := hb0.size
    have hlt1 := lt_of_heap hg0
    (with_reducible refine (HF.out _ W1 htw).mono ?_)
    rintro e w3 ⟨rfl, hb3⟩
    have hg3 := (hb3.block _ hlt1).trans hg0
    have hsz3 := hb3.size
    have c0 : w3.cell? ⟨w.heap.size, 0, none⟩ = some (.bool false) := by rw [cell_of_row w3 _ _ _ _ (0, 0) hg3]; rfl
    have c1 : w3.cell? ⟨w.heap.size, 1, none⟩ = some (.string ⟨#[]⟩) := by rw [cell_of_row w3 _ _ _ _ (0, 0) hg3]; rfl
    have f0 : ∀ o, w3.frozen? ⟨w.heap.size, o, none⟩ = false := fun o => by simp [World.frozen?, hg3]
    have hsl : w.heap.size < w3.heap.size := by omega
    have hsn : ¬ w.heap.size = w3.heap.size := by omega
    have hsn2 : ¬ w3.heap.size = w.heap.size := by omega
    have HB := Lib.hid (hb0.trans (hb3.mono hsz))
    clear hg0 hb0 htw hb3 hlt1 hsz hsz3
    go_wp2
    have hg9 : (((w3.setCell ⟨w.heap.size, 0, none⟩ (.bool false)).setCell ⟨w.heap.size, 1, none⟩ (.string S)).alloc (.cells #[.bool false, .string S] 42)).heap[w.heap.size]? = some (.cells #[.bool false, .string S] 42) := by
      rw [Below.heap_alloc _ _ _ (by simp; omega)]; exact wide_set hg3 false S
    obtain ⟨d0, d1, -⟩ := wide_cells hg9
    have hb9 : Below w.heap.size w (((w3.setCell ⟨w.heap.size, 0, none⟩ (.bool false)).setCell ⟨w.heap.size, 1, none⟩ (.string S)).alloc (.cells #[.bool false, .string S] 42)) := ((HB.out.setCell (by simp) _).setCell (by simp) _).alloc (by simp; omega) _
    generalize ((w3.setCell ⟨w.heap.size, 0, none⟩ (.bool false)).setCell ⟨w.heap.size, 1, none⟩ (.string S)).alloc (.cells #[.bool false, .string S] 42) = W9 at d0 d1 hb9 ⊢
    exact bodyPost_ret (v := .agg #[.bool false, .string S]) (by simp [results, Try.results85, go_sem, d0, d1]) rfl ⟨rfl, hb9⟩
end Go.Proofs.Ytkjlfjnncdkmlaa

/- Plain: decimal texts. -/

/- Walks: the integer of a text. -/
namespace Go.Proofs.Ytkjlfjnncdkmlaa
set_option linter.all false
open Go.RowKit Go.Shelf Go.WideNum
theorem below_via {a b c : World} (h : Below a.heap.size a b) (k : Below b.heap.size b c) : Below a.heap.size a c := h.trans (k.mono h.size)
theorem form_num (n : Nat) (neg : Bool) (v : Value) (w : World) (h : World.numR w v n) (hl : (wd n).length ≤ 2000) : Calls Try.prog 102 #[v, .bool neg] w (FormRet w neg n) := by
  have := form_any (wd n) (words_lt (by omega) n n) hl neg v w h
  rwa [valW_wd] at this
end Go.Proofs.Ytkjlfjnncdkmlaa

/- Moves of a walk through a region that draws its order: reads first, then several stores in one order. -/
namespace Go
set_option linter.all false
open RowKit
section
variable {P : Program} {ops : Array Oper} {Q : Exit → Act → World → Prop} {S : World → Prop} {late : Nat → Bool}
def wpAnyD (P : Program) (ops : Array Oper) (Q : Exit → Act → World → Prop) (S : World → Prop) (late : Nat → Bool) : Nat → Array Bool → Act → World → Prop
  | 0, listed, a, w => Region.ready .any ops listed = [] ∧ Q .normal a w
  | fuel + 1, listed, a, w =>
    (Region.ready .any ops listed = [] → Q .normal a w) ∧
    ∀ i ∈ Region.ready .any ops listed, wpOp P ops Q i (fun a' w' => (late i = false → S w → S w') ∧ wpAnyD P ops Q S late fuel (listed.setIfInBounds i true) a' w') a w
theorem wpAny_of_D : ∀ (fuel : Nat) (listed : Array Bool) (a : Act) (w : World), wpAnyD P ops Q S late fuel listed a w → wpAny P .any ops Q fuel listed a w
  | 0, _, _, _, h => h
  | fuel + 1, _, _, _, h => ⟨h.1, fun i hi => wpOp_mono (fun a' w' h' => wpAny_of_D fuel _ a' w' h'.2) (h.2 i hi)⟩
def waitsB (ops : Array Oper) (late : Nat → Bool) (i : Nat) : Bool := (List.range ops.size).all fun j => !late j || ((ops[j]?).map fun o => o.after.any fun e => Region.binds .any e && e.on == i).getD false
theorem late_listed {i j : Nat} {listed : Array Bool} (hw : waitsB ops late i = true) (hl : late j = true) (hr : j ∈ Region.ready .any ops listed) : listed.getD i false = true := by
  rw [mem_ready] at hr
  obtain ⟨-, oL, hoL, h3⟩ := hr
  have hj : j < ops.size := by
    rcases Nat.lt_or_ge j ops.size with h | h
    · exact h
    · rw [Array.getElem?_eq_none h] at hoL; cases hoL
  unfold waitsB at hw
  rw [List.all_eq_true] at hw
  have h4 := hw j (List.mem_range.2 hj)
  rw [hl, hoL, Option.map_some, Option.getD_some, Bool.not_true, Bool.false_or, Array.any_eq_true] at h4
  obtain ⟨k, hk, h5⟩ := h4
  rw [Bool.and_eq_true] at h5
  have h6 := h3 _ (Array.getElem_mem hk) h5.1
  rw [beq_iff_eq.1 h5.2] at h6
  exact h6
theorem wpAnyD_first {i : Nat} {oi : Oper} {v : Value} (hw : waitsB ops late i = true) (hi : ops[i]? = some oi) (hsel : ∀ (j : Nat) (o : Oper) cs b, ops[j]? = some o → o.op ≠ .select cs b)
    (hQ : ∀ c a w, Q (.panic c) (a.put oi.dst v) w → Q (.panic c) a w) :
    ∀ (fuel : Nat) (listed : Array Bool) (a : Act) (w : World),
      (∀ j oj, ops[j]? = some oj → j ≠ i → listed.getD j true = false → (∀ e ∈ oj.after, Region.binds .any e = true → e.on ≠ i) → oi.apart ops oj = true) →
      i ∈ Region.ready .any ops listed → YieldsIf P ops S oi v a → S w →
      wpAnyD P ops Q S late fuel (listed.setIfInBounds i true) (a.put oi.dst v) w → wpAnyD P ops Q S late (fuel + 1) listed a w := by
  intro fuel
  induction fuel with
  | zero =>
    intro listed a w _ hr hy hS H
    refine ⟨fun h => (by rw [h] at hr; cases hr), fun j hj => ?_⟩
    by_cases hji : j = i
    · subst hji; exact hy.wpOp hi hS ⟨fun _ h => h, H⟩
    · have := ready_mono hj hji
      rw [H.1] at this
      cases this
  | succ fuel ih =>
    intro listed a w hfree hr hy hS H
    refine ⟨fun h => (by rw [h] at hr; cases hr), fun j hj => ?_⟩
    by_cases hji : j = i
    · subst hji; exact hy.wpOp hi hS ⟨fun _ h => h, H⟩
    · have hjL : late j = false := by
        cases hl : late j with
        | false => rfl
        | true => exact (unlisted_not (mem_ready.1 hr).1 (late_listed hw hl hj)).elim
      have h1 := H.2 j (ready_mono hj hji)
      obtain ⟨hjun, oj, hoj, hall⟩ := mem_ready.1 hj
      have hnot : ∀ e ∈ oj.after, Region.binds .any e = true → e.on ≠ i := fun e he hb heq => by
        have h1 := hall e he hb
        rw [heq] at h1
        exact unlisted_not (mem_ready.1 hr).1 h1
      have h2 := wpOp_putIf hoj (hfree j oj hoj hji hjun hnot) (fun cs b => hsel i oi cs b hi) (fun cs b => hsel j oj cs b hoj) hQ hy h1
      have hfree' : ∀ k ok, ops[k]? = some ok → k ≠ i → (listed.setIfInBounds j true).getD k true = false →
          (∀ e ∈ ok.after, Region.binds .any e = true → e.on ≠ i) → oi.apart ops ok = true := fun k ok hk hki hun hno => by
        refine hfree k ok hk hki ?_ hno
        by_cases hjk : j = k
        · subst hjk; exact hjun
        · rw [getD_set_ne true hjk] at hun; exact hun
      refine wpOp_mono (fun a' w' h3 => ⟨h3.2.1, ih (listed.setIfInBounds j true) a' w' hfree' (ready_mono hr (Ne.symm hji)) h3.1 (h3.2.1 hjL hS) ?_⟩) h2
      rw [Array.setIfInBounds_comm _ _ hji]
      exact h3.2.2
theorem wpAnyD_firstW {i : Nat} {oi : Oper} {v : Value} (hi : ops[i]? = some oi) (hsel : ∀ (j : Nat) (o : Oper) cs b, ops[j]? = some o → o.op ≠ .select cs b)
    (hQ : ∀ c a w, Q (.panic c) (a.put oi.dst v) w → Q (.panic c) a w) :
    ∀ (fuel : Nat) (listed : Array Bool) (a : Act) (w : World),
      (∀ j oj, ops[j]? = some oj → j ≠ i → listed.getD j true = false → (∀ e ∈ oj.after, Region.binds .any e = true → e.on ≠ i) → oi.apart ops oj = true) →
      i ∈ Region.ready .any ops listed → YieldsIf P ops (fun _ => True) oi v a →
      wpAnyD P ops Q S late fuel (listed.setIfInBounds i true) (a.put oi.dst v) w → wpAnyD P ops Q S late (fuel + 1) listed a w := by
  intro fuel
  induction fuel with
  | zero =>
    intro listed a w _ hr hy H
    refine ⟨fun h => (by rw [h] at hr; cases hr), fun j hj => ?_⟩
    by_cases hji : j = i
    · subst hji; exact hy.wpOp hi trivial ⟨fun _ h => h, H⟩
    · have := ready_mono hj hji
      rw [H.1] at this
      cases this
  | succ fuel ih =>
    intro listed a w hfree hr hy H
    refine ⟨fun h => (by rw [h] at hr; cases hr), fun j hj => ?_⟩
    by_cases hji : j = i
    · subst hji; exact hy.wpOp hi trivial ⟨fun _ h => h, H⟩
    · have h1 := H.2 j (ready_mono hj hji)
      obtain ⟨hjun, oj, hoj, hall⟩ := mem_ready.1 hj
      have hnot : ∀ e ∈ oj.after, Region.binds .any e = true → e.on ≠ i := fun e he hb heq => by
        have h1 := hall e he hb
        rw [heq] at h1
        exact unlisted_not (mem_ready.1 hr).1 h1
      have h2 := wpOp_putIf (S := fun _ => True) hoj (hfree j oj hoj hji hjun hnot) (fun cs b => hsel i oi cs b hi) (fun cs b => hsel j oj cs b hoj) hQ hy h1
      have hfree' : ∀ k ok, ops[k]? = some ok → k ≠ i → (listed.setIfInBounds j true).getD k true = false →
          (∀ e ∈ ok.after, Region.binds .any e = true → e.on ≠ i) → oi.apart ops ok = true := fun k ok hk hki hun hno => by
        refine hfree k ok hk hki ?_ hno
        by_cases hjk : j = k
        · subst hjk; exact hjun
        · rw [getD_set_ne true hjk] at hun; exact hun
      refine wpOp_mono (fun a' w' h3 => ⟨h3.2.1, ih (listed.setIfInBounds j true) a' w' hfree' (ready_mono hr (Ne.symm hji)) h3.1 ?_⟩) h2
      rw [Array.setIfInBounds_comm _ _ hji]
      exact h3.2.2
theorem wpAnyD_take (i : Nat) {oi : Oper} {v : Value} {fuel : Nat} {listed : Array Bool} {a : Act} {w : World} (hr : (Region.ready .any ops listed).contains i = true) (hw : waitsB ops late i = true) (hi : ops.toList[i]? = some oi)
    (hs : Region.noSelect ops = true) (hf : Region.free .any ops listed i = true)
    (hQ : ∀ c a w, Q (.panic c) (a.put oi.dst v) w → Q (.panic c) a w) (hy : YieldsIf P ops S oi v a) (hS : S w)
    (h : wpAnyD P ops Q S late fuel (listed.setIfInBounds i true) (a.put oi.dst v) w) : wpAnyD P ops Q S late (fuel + 1) listed a w :=
  wpAnyD_first hw (by simpa using hi) (Region.noSelect_spec hs) hQ fuel listed a w (Region.free_spec (by simpa using hi) hf) (by simpa using hr) hy hS h
theorem wpAnyD_takeW (i : Nat) {oi : Oper} {v : Value} {fuel : Nat} {listed : Array Bool} {a : Act} {w : World} (hr : (Region.ready .any ops listed).contains i = true) (hi : ops.toList[i]? = some oi)
    (hs : Region.noSelect ops = true) (hf : Region.free .any ops listed i = true)
    (hQ : ∀ c a w, Q (.panic c) (a.put oi.dst v) w → Q (.panic c) a w) (hy : YieldsIf P ops (fun _ => True) oi v a)
    (h : wpAnyD P ops Q S late fuel (listed.setIfInBounds i true) (a.put oi.dst v) w) : wpAnyD P ops Q S late (fuel + 1) listed a w :=
  wpAnyD_firstW (by simpa using hi) (Region.noSelect_spec hs) hQ fuel listed a w (Region.free_spec (by simpa using hi) hf) (by simpa using hr) hy h
theorem wpAnyD_step (i : Nat) {o : Oper} {fuel : Nat} {listed : Array Bool} {a : Act} {w : World} (hr : Region.ready .any ops listed = [i]) (hl : late i = true) (ho : ops.toList[i]? = some o)
    (h : ∀ K' : Act → World → Prop, Shut (∀ a w, wpAnyD P ops Q S late fuel (listed.setIfInBounds i true) a w → K' a w) → if Region.wanted o (yielded ops a.tmps) = true then Oper.wp P o a w K' Q else K' (a.put o.dst undef) w) :
    wpAnyD P ops Q S late (fuel + 1) listed a w := by
  refine ⟨fun h0 => (by rw [hr] at h0; cases h0), fun j hj => ?_⟩
  rw [hr] at hj
  obtain rfl : j = i := by simpa using hj
  exact wpOp_step (by simpa using ho) (fun K' hK => h K' (fun a w hW => hK a w ⟨fun h => (by rw [hl] at h; cases h), hW⟩))
theorem wpAnyD_end {fuel : Nat} {listed : Array Bool} {a : Act} {w : World} (hr : Region.ready .any ops listed = []) (h : Q .normal a w) : wpAnyD P ops Q S late fuel listed a w := by
  cases fuel with
  | zero => exact ⟨hr, h⟩
  | succ fuel => exact ⟨fun _ => h, by rw [hr]; simp⟩
theorem wp_region_late {id : Nat} {a : Act} {w : World} (S : World → Prop) (late : Nat → Bool) (hm : P.follows .mixedOrders = true) (hS : S w.drew)
    (h : S w.drew → wpAnyD P ops Q S late ops.size (Array.replicate ops.size false) a w.drew) : (Code.region id ops true).wp P Q a w :=
  wp_region_any hm (wpAny_of_D _ _ _ _ (h hS))
end
end Go

/- Plain: decimal digits, nine at a time; a row that is turned round. -/

/- Walks: the decimal text of a form. -/
namespace Go.Proofs.Ytkjlfjnncdkmlaa
set_option linter.all false
open Go.RowKit Go.Shelf Go.WideNum
def u8V (x : Nat) : Value := .int .u8 (x : Int)
theorem app_u8 {ops : Array Oper} {rest : List Oper} {o : Oper} {a : Act} {Q : Exit → Act → World → Prop} (W : World) (hg : o.guard = none) (s x : Operand)
    (hop : o.op = .call { callee := .builtin .append, args := #[s, x], argTypes := #[108, 108] })
    (base : Nat) (v : Value) (n : Nat) (xs : List Value) (hs : a.eval s = v) (hown : W.owns base 5 1 v n xs) (u : Int) (H : Nat) (hH : W.heap.size = H) (hx : a.eval x = .slice (some ⟨H, 0, none⟩) 1 1)
    (hn : n ≤ 1000000) (hbase : base ≤ W.heap.size)
    (h : ∀ v' w', w'.owns base 5 1 v' (n + 1) (xs ++ [.int .u8 u]) → W.grownBy w' v.ownBlock → W.heap.size < w'.heap.size → wpList Try.prog ops Q rest (a.put o.dst v') w') : wpList Try.prog ops Q (o :: rest) a (W.alloc (.cells #[.int .u8 u] 5)) := by
  obtain ⟨i0, hi, hz, h1, h2⟩ := info_parts infoByte
  exact wpList_append1 W hg s x 108 hop base 5 i0 (.int .u8 0) 1 Try.underlying108 hi hz h1 h2 rfl v n xs hs hown (.int .u8 u) H hH hx rfl (by unfold maxLen; omega) (by omega) hbase (fun v' w' h1 _ h3 h4 => h v' w' h1 h3 h4)
theorem own_string {W : World} {base g n c : Nat} {l : List Nat} (h : W.owns base 5 1 (.slice (some ⟨g, 0, none⟩) n c) n (l.map u8V)) (hl : ∀ x ∈ l, x < 256) (dst : TypeId) (hd : Try.prog.underlying dst = some .string) :
    (convert 108 dst (.slice (some ⟨g, 0, none⟩) n c)).run Try.prog W = .ok (.string ⟨(l.map UInt8.ofNat).toArray⟩) W := by
  have hn : l.length = n := by have := h.1; simpa using this
  have e : l.map u8V = (l.map UInt8.ofNat).map fun b => Value.int .u8 (b.toNat : Int) := by
    rw [List.map_map]
    apply List.map_congr_left
    intro x hx
    show Value.int .u8 (x : Int) = Value.int .u8 (((UInt8.ofNat x).toNat : Nat) : Int)
    rw [UInt8.toNat_ofNat', Nat.mod_eq_of_lt (hl x hx)]
  rw [e] at h
  have h2 := run_owns_string (P := Try.prog) (w := W) (m := n) 108 dst 5 Try.underlying108 Try.underlying5 hd h (by simp [hn]) c
  rw [List.take_of_length_le (by simp [hn])] at h2
  exact h2
theorem Valid_wide (neg : Bool) (s : ByteArray) (hs : s.size ≤ maxLen) (w : World) :
    Calls Try.prog 117 #[.agg #[.bool neg, .string s]] w fun e w' => e = .returned (.bool (validB neg s)) ∧ Below w.heap.size w w' := Valid_any neg s hs w
theorem of_wide (neg : Bool) (s : ByteArray) (hs : s.size ≤ 2000) (w : World) : Calls Try.prog 106 #[.agg #[.bool neg, .string s]] w (NumRet w (numB s)) := of_any neg s hs w
theorem owns_fz {W : World} {base g n c : Nat} {e : TypeId} {xs : List Value} (h : W.owns base e 1 (.slice (some ⟨g, 0, none⟩) n c) n xs) (j : Nat) (hj : j < n) : W.frozen? ⟨g, j, none⟩ = false := by
  rcases h.2 with ⟨h0, _⟩ | ⟨g', cap, cur, fz, hv, hb, hg, hf, hle, hm, hs, _⟩
  · cases h0
  · injection hv with h1 h2 h3
    injection h1 with h1
    injection h1 with h1
    subst h1 h3
    have := hf j (by omega)
    simp [World.frozen?, hg]
    omega
end Go.Proofs.Ytkjlfjnncdkmlaa

/- Walks: whether forms are valid, positive, too long. -/
namespace Go.Proofs.Ytkjlfjnncdkmlaa
set_option linter.all false
open Go.RowKit Go.Shelf Go.WideNum
def World.forms (w : World) (g : Nat) (L : List (Bool × ByteArray)) : Prop := ∀ k x, L[k]? = some x → w.cell? ⟨g, 2 * k, none⟩ = some (.bool x.1) ∧ w.cell? ⟨g, 2 * k + 1, none⟩ = some (.string x.2)
theorem forms_below {w w' : World} {g : Nat} {L : List (Bool × ByteArray)} (h : World.forms w g L) (hg : g < w.heap.size) (hb : Below w.heap.size w w') : World.forms w' g L := fun k x hk =>
  ⟨(hb.cell (p := ⟨g, 2 * k, none⟩) hg).trans (h k x hk).1, (hb.cell (p := ⟨g, 2 * k + 1, none⟩) hg).trans (h k x hk).2⟩
set_option maxRecDepth 100000 in
set_option maxHeartbeats 4000000 in
theorem valid_any (L : List (Bool × ByteArray)) (g : Nat) (hL : L.length ≤ 10) (hs : ∀ x ∈ L, x.2.size ≤ maxLen) (w : World) (hg : World.forms w g L) (hgl : g < w.heap.size) :
    Calls Try.prog 104 #[.slice (some ⟨g, 0, none⟩) L.length L.length] w fun e w' => e = .returned (.bool (L.all fun x => validB x.1 x.2)) ∧ Below w.heap.size w w' := by
  obtain ⟨R, hR⟩ : ∃ R, R = L.all fun x => validB x.1 x.2 := ⟨_, rfl⟩
  rw [← hR]
  obtain ⟨n, hn⟩ : ∃ n, n = L.length := ⟨_, rfl⟩
  rw [← hn] at hL ⊢
  have HR := Lib.hid hR
  have HN := Lib.hid hn
  have HG : Hid (World.forms w g L) := hg
  have HS := Lib.hid hs
  clear hR hn hg hs
  go_enter Try.func104, Try.ntmps104
  go_wp2_with fail
  go_loopw [7] (fun iv wr => ∃ k : Nat, k ≤ n ∧ iv = .int .i64 (k : Int) ∧ Hid ((L.take k).all (fun x => validB x.1 x.2) = true) ∧ Hid (Below w.heap.size w wr)) (fun iv _ => n - (intOf iv).toNat)
  case atStart => exact ⟨0, Nat.zero_le _, rfl, rfl, Below.refl _ _⟩
  case round =>
    obtain ⟨k, hk, rfl, hT, hB⟩ := hrel
    by_cases hlt : k < n
    · have hx : L[k]? = some (L[k]'(by rw [← HN.out]; exact hlt)) := List.getElem?_eq_getElem _
      obtain ⟨x, ex⟩ : ∃ x, x = L[k]'(by rw [← HN.out]; exact hlt) := ⟨_, rfl⟩
      rw [← ex] at hx
      obtain ⟨c0, c1⟩ := forms_below HG.out hgl hB.out k x hx
      have hs63 : x.2.size ≤ maxLen := HS.out x (List.mem_of_getElem? hx)
      have hts : (L.take (k + 1)).all (fun x => validB x.1 x.2) = ((L.take k).all (fun x => validB x.1 x.2) && validB x.1 x.2) := by
        rw [List.take_add_one, hx, List.all_append]; simp
      have HTS := Lib.hid hts
      have HX := Lib.hid hx
      have ek2 : k * 2 + 1 = 2 * k + 1 := by omega
      have ek3 : k * 2 = 2 * k := by omega
      have hszb := hB.out.size
      have HVAL : Hid (∀ W : World, Calls Try.prog 117 #[.agg #[.bool x.1, .string x.2]] W fun e w' => e = .returned (.bool (validB x.1 x.2)) ∧ Below W.heap.size W w') := Valid_wide x.1 x.2 hs63
      clear hts hx ex hs63
      obtain ⟨x1, x2⟩ := x
      dsimp only at c0 c1
      cases hv : validB x1 x2 with
      | false =>
        have hre : R = false := by
          rw [HR.out, Bool.eq_false_iff]
          intro h
          have := List.all_eq_true.1 h _ (List.mem_of_getElem? HX.out)
          rw [hv] at this; cases this
        subst hre
        dsimp only at HVAL
        rw [hv] at HVAL
        clear hv
        go_wp2_with fail
        (with_reducible refine (HVAL.out _).mono ?_)
        rintro e w3 ⟨rfl, hb3⟩
        have HB3 := Lib.hid (hB.out.trans (((Below.refl wr.heap.size wr).alloc (Nat.le_refl _) (.cells #[.bool x1, .string x2] 42)).trans (hb3.mono (by simp)) |>.mono hszb))
        clear hb3
        go_wp2
        go_ret
        exact ⟨rfl, HB3.out⟩
      | true =>
        dsimp only at HVAL HTS
        rw [hv] at HVAL HTS
        clear hv
        go_wp2_with fail
        (with_reducible refine (HVAL.out _).mono ?_)
        rintro e w3 ⟨rfl, hb3⟩
        have HB3 := Lib.hid (hB.out.trans (((Below.refl wr.heap.size wr).alloc (Nat.le_refl _) (.cells #[.bool x1, .string x2] 42)).trans (hb3.mono (by simp)) |>.mono hszb))
        clear hb3
        go_wp2
        go_roundw
        case rel => exact ⟨k + 1, by omega, by go_num, by show _ = _; rw [HTS.out, hT.out]; rfl, HB3.out⟩
        case measure => simp [intOf]; omega
    · obtain rfl : k = n := by omega
      have hre : R = true := by
        rw [HR.out]
        have := hT.out
        rwa [HN.out, List.take_length] at this
      subst hre
      go_wp2
      go_ret
      exact ⟨rfl, hB.out⟩
theorem str_facts (s : ByteArray) (h0 : s.size ≠ 0) : ¬ s = (⟨#[]⟩ : ByteArray) ∧ s.toList.isEmpty = false := by
  refine ⟨fun h => h0 (by rw [h]; rfl), ?_⟩
  rw [ByteArray.toList_eq]
  cases hl : s.data.toList with
  | nil =>
    exfalso
    apply h0
    show s.data.size = 0
    rw [← Array.length_toList, hl]; rfl
  | cons a l => rfl
theorem str_empty (s : ByteArray) (h0 : s.size = 0) : s = ⟨#[]⟩ := by
  apply ByteArray.ext
  exact Array.eq_empty_of_size_eq_zero h0
def posB (neg : Bool) (s : ByteArray) : Bool := validB neg s && (decide (s.size ≠ 0) && !neg)
set_option maxRecDepth 100000 in
set_option maxHeartbeats 4000000 in
theorem positive_any (neg : Bool) (s : ByteArray) (hs : s.size ≤ maxLen) (w : World) :
    Calls Try.prog 121 #[.agg #[.bool neg, .string s]] w fun e w' => e = .returned (.bool (posB neg s)) ∧ Below w.heap.size w w' := by
  have HVAL : Hid (∀ W : World, Calls Try.prog 117 #[.agg #[.bool neg, .string s]] W fun e w' => e = .returned (.bool (validB neg s)) ∧ Below W.heap.size W w') := Valid_wide neg s hs
  obtain ⟨R, hR⟩ : ∃ R, R = posB neg s := ⟨_, rfl⟩
  rw [← hR]
  unfold posB at hR
  have hb0 := (Below.refl w.heap.size w).alloc (Nat.le_refl _) (.cells #[.bool neg, .string s] 42)
  have HB0 := Lib.hid hb0
  clear hb0
  cases hv : validB neg s with
  | false =>
    rw [hv] at HVAL hR
    have hre : R = false := hR
    subst hre
    clear hv hR
    go_enter Try.func121, Try.ntmps121
    go_wp2_with fail
    (with_reducible refine (HVAL.out _).mono ?_)
    rintro e w3 ⟨rfl, hb3⟩
    have HB3 := Lib.hid (HB0.out.trans (hb3.mono (by simp)))
    clear hb3
    go_wp2
    go_ret
    exact ⟨rfl, HB3.out⟩
  | true =>
    rw [hv, Bool.true_and] at hR
    rw [hv] at HVAL
    clear hv
    by_cases h0 : s.size = 0
    · have hre : R = false := by rw [hR, decide_eq_false (by omega)]; rfl
      obtain rfl := str_empty s h0
      subst hre
      clear hR h0
      go_enter Try.func121, Try.ntmps121
      go_wp2_with fail
      (with_reducible refine (HVAL.out _).mono ?_)
      rintro e w3 ⟨rfl, hb3⟩
      obtain ⟨c0, c1, f0⟩ := wide_cells ((hb3.block w.heap.size (by simp)).trans (heap_alloc_new w _))
      have HB3 := Lib.hid (HB0.out.trans (hb3.mono (by simp)))
      clear hb3
      go_wp2
      go_ret
      exact ⟨rfl, HB3.out⟩
    · obtain ⟨hns, hem⟩ := str_facts s h0
      have hre : R = !neg := by rw [hR, decide_eq_true (by omega)]; rfl
      subst hre
      clear hR h0
      go_enter Try.func121, Try.ntmps121
      go_wp2_with fail
      (with_reducible refine (HVAL.out _).mono ?_)
      rintro e w3 ⟨rfl, hb3⟩
      obtain ⟨c0, c1, f0⟩ := wide_cells ((hb3.block w.heap.size (by simp)).trans (heap_alloc_new w _))
      have HB3 := Lib.hid (HB0.out.trans (hb3.mono (by simp)))
      clear hb3
      go_wp2
      go_ret
      exact ⟨rfl, HB3.out⟩
end Go.Proofs.Ytkjlfjnncdkmlaa

/- Walks: whether two elements are alike (the program's). -/
namespace Go.Proofs.Ytkjlfjnncdkmlaa.G
set_option linter.all false
open Go.RowKit Go.Shelf Go.BigFrame
theorem checkE (N pr pw wt er : Int) (cv : Value) (chain : List Nat) (sp : Nat) (level : Int) (special : Bool) (rv : Value) (rows : List (List Nat)) (w : World) (hr : w.reads w.heap.size cv (chain.map u32V)) (hrow : w.rows u32V w.heap.size rv rows) :
    Calls Try.prog 22 #[.agg #[.int .i64 N, .int .u32 pr, .int .i64 pw, cv, .int .u32 (sp : Int), .int .i64 wt, .int .u32 er], .agg #[.int .i64 level, .bool special, rv]] w (ErrPost (checkB N chain sp level special rows) w) :=
  Check_any N pr pw wt er cv chain sp level special rv rows w hr hrow
end Go.Proofs.Ytkjlfjnncdkmlaa.G

/- Walks: the digits of an element. -/
namespace Go.Proofs.Ytkjlfjnncdkmlaa.G
open Go.RowKit Go.Shelf Go.BigFrame
attribute [local go_sem] Oper.semAt_some
def RowsOk (n : Nat) (chain : List Nat) (rows : List (List Nat)) : Prop := ∀ (i : Nat) (r : List Nat), rows[i]? = some r → r.length = n ∧ ∃ q, chain[i]? = some q ∧ ∀ x ∈ r, x < q
end Go.Proofs.Ytkjlfjnncdkmlaa.G

/- Walks: the digits of an element, or the error. -/

/- Plain: the digits of a restricted element are the first ones. -/
namespace Go.Proofs.Ytkjlfjnncdkmlaa.G
open Go.RowKit Go.Shelf Go.BigFrame
theorem RowsOk.take {n : Nat} {chain : List Nat} {rows : List (List Nat)} (h : RowsOk n chain rows) (k : Nat) : RowsOk n chain (rows.take k) := fun i r hr => by
  rw [List.getElem?_take] at hr
  split at hr
  · exact h i r hr
  · cases hr
end Go.Proofs.Ytkjlfjnncdkmlaa.G

/- Plain: what is cut is put together again, and no digit is greater than the bound. -/
namespace Go.Proofs.Ytkjlfjnncdkmlaa.G
open Go.RowKit Go.Shelf Go.BigFrame
theorem RowsOk.entry {n lv : Nat} {chain : List Nat} {rows : List (List Nat)} (h : RowsOk n chain rows) (hl : rows.length = lv) (i c : Nat) (hi : i < lv) (hc : c < n) : chain.getD i 0 ∈ chain ∧ (rows.getD i []).getD c 0 < chain.getD i 0 ∧ (rows.getD i []).length = n := by
  obtain ⟨r, hr⟩ : ∃ r, rows[i]? = some r := ⟨rows[i]'(by omega), List.getElem?_eq_getElem _⟩
  obtain ⟨k1, q, hq, k2⟩ := h i r hr
  simp only [List.getD_eq_getElem?_getD, hq, hr, Option.getD_some]
  refine ⟨List.mem_of_getElem? hq, ?_, k1⟩
  obtain ⟨y, hy⟩ : ∃ y, r[c]? = some y := ⟨r[c]'(by omega), List.getElem?_eq_getElem _⟩
  rw [hy]
  exact k2 y (List.mem_of_getElem? hy)
end Go.Proofs.Ytkjlfjnncdkmlaa.G

/- Plain laws of Joins and Times. -/
/- Plain: what the reference puts together is what the program does. -/

/- Plain: products modulo x^n + 1 commute; digits, times the weights, are the integer; what the law on products says. -/
namespace Go.Proofs.Ytkjlfjnncdkmlaa.G
open Go.RowKit Go.Shelf Go.BigFrame
def sumN (f : Nat → Int) : Nat → Int
  | 0 => 0
  | k + 1 => sumN f k + f k
theorem sumN_congr {f g : Nat → Int} : ∀ {n : Nat}, (∀ i, i < n → f i = g i) → sumN f n = sumN g n
  | 0, _ => rfl
  | n + 1, h => by
    show sumN f n + f n = sumN g n + g n
    rw [sumN_congr (fun i hi => h i (by omega)), h n (by omega)]
theorem sumN_zero : ∀ n, sumN (fun _ => 0) n = 0
  | 0 => rfl
  | n + 1 => by show sumN _ n + 0 = 0; rw [sumN_zero n]; rfl
/-! ### The digits, times their weights -/
theorem getD_map_resN (q : Nat) (l : List Int) (j : Nat) (hj : j < l.length) : (l.map (resN q)).getD j 0 = resN q (l.getD j 0) := by
  simp [List.getD_eq_getElem?_getD, hj]
theorem resN_back (q : Nat) (hq : 0 < q) (x : Int) : ∃ u, (resN q x : Int) = x + (q : Int) * u := by
  obtain ⟨t, ht⟩ := resN_spec q hq x
  exact ⟨-t, by rw [Int.mul_neg]; omega⟩
end Go.Proofs.Ytkjlfjnncdkmlaa.G

/- Plain: what the functions make passes the check. -/
namespace Go.Proofs.Ytkjlfjnncdkmlaa.G
open Go.RowKit Go.Shelf Go.BigFrame
theorem EltOk.ofMap {n : Nat} {ml : List Nat} (f : Nat → List Nat) (h : ∀ i q, ml[i]? = some q → (f i).length = n ∧ ∀ x ∈ f i, x < q) : EltOk n ml ((List.range ml.length).map f) := by
  refine ⟨by simp, fun i r hr => ?_⟩
  have hi : i < ml.length := by
    have := (List.getElem?_eq_some_iff.1 hr).1
    simpa using this
  obtain rfl : f i = r := by
    rw [List.getElem?_map, List.getElem?_range hi, Option.map_some] at hr
    injection hr
  exact ⟨(h i _ (List.getElem?_eq_getElem hi)).1, _, List.getElem?_eq_getElem hi, (h i _ (List.getElem?_eq_getElem hi)).2⟩
theorem EltOk.zip {n : Nat} {ml : List Nat} (f : Nat → List Nat → List Nat → List Nat) (xs ys : List (List Nat)) (h : ∀ q ∈ ml, ∀ a b, (f q a b).length = n ∧ ∀ x ∈ f q a b, x < q) : EltOk n ml (zipRows f ml xs ys ml.length) := by
  unfold zipRows
  refine EltOk.ofMap _ fun i q hq => ?_
  have hg : ml.getD i 0 = q := by rw [List.getD_eq_getElem?_getD, hq]; rfl
  rw [hg]
  exact h q (List.mem_of_getElem? hq) _ _
theorem sumRow_ok (k : Int) (n q : Nat) (hq : 0 < q) (a b : List Nat) : (sumRow k n q a b).length = n ∧ ∀ x ∈ sumRow k n q a b, x < q := by
  refine ⟨by simp [sumRow], fun x hx => ?_⟩
  unfold sumRow at hx
  rw [List.mem_map] at hx
  obtain ⟨j, _, rfl⟩ := hx
  exact Nat.mod_lt _ hq
theorem intRows_ok {n : Nat} {ml : List Nat} (hq : ∀ q ∈ ml, 0 < q) (l : List Int) (hl : l.length = n) : EltOk n ml (intRows ml l) := by
  unfold intRows
  refine ⟨by simp, fun i r hr => ?_⟩
  rw [List.getElem?_map] at hr
  cases hq' : ml[i]? with
  | none => rw [hq'] at hr; cases hr
  | some q =>
    rw [hq', Option.map_some] at hr
    obtain rfl : l.map (resN q) = r := by injection hr
    refine ⟨by simp [hl], q, rfl, fun x hx => ?_⟩
    rw [List.mem_map] at hx
    obtain ⟨z, _, rfl⟩ := hx
    exact resN_lt q _ (hq q (List.mem_of_getElem? hq'))
theorem EltOk.take {n lv L : Nat} {chain : List Nat} {sp : Nat} {rows : List (List Nat)} (h : EltOk n (modl chain sp lv false) rows) (hL : L ≤ lv) (hlv : lv ≤ chain.length) : EltOk n (modl chain sp L false) (rows.take L) := by
  have m1 := modl_length chain sp lv false hlv
  have m2 := modl_length chain sp L false (by omega)
  refine ⟨by rw [List.length_take, h.1, m1, m2]; simp; omega, fun i r hr => ?_⟩
  rw [List.getElem?_take] at hr
  split at hr
  · rename_i hi
    obtain ⟨k1, q, hq, k2⟩ := h.2 i r hr
    refine ⟨k1, q, ?_, k2⟩
    unfold modl at hq ⊢
    simp only [Bool.false_eq_true, if_false, List.append_nil, List.getElem?_take] at hq ⊢
    rw [if_pos hi]
    rw [if_pos (by omega)] at hq
    exact hq
  · cases hr
end Go.Proofs.Ytkjlfjnncdkmlaa.G

/- Plain: products modulo x^n + 1 are associative; automorphisms. -/
namespace Go.Proofs.Ytkjlfjnncdkmlaa.G
set_option linter.all false
def eN (n e t : Nat) : Int := if e % (2 * n) = t then 1 else if e % (2 * n) = t + n then -1 else 0
def autI (n k : Nat) (f : Nat → Int) (t : Nat) : Int := sumN (fun j => eN n (j * k) t * f j) n
end Go.Proofs.Ytkjlfjnncdkmlaa.G

/- Plain: rows of residues of integers; what the laws of the ring say of them. -/
namespace Go.Proofs.Ytkjlfjnncdkmlaa.G
set_option linter.all false
def cf (a : List Nat) (i : Nat) : Int := (a.getD i 0 : Nat)
def mapZ (n q : Nat) (F : Nat → Int) : List Nat := (List.range n).map fun k => resN q (F k)
theorem mapZ_len (n q : Nat) (F : Nat → Int) : (mapZ n q F).length = n := by simp [mapZ]
theorem mapZ_ok {n q : Nat} (hq : 0 < q) (F : Nat → Int) : (mapZ n q F).length = n ∧ ∀ x ∈ mapZ n q F, x < q := by
  refine ⟨mapZ_len _ _ _, fun x hx => ?_⟩
  unfold mapZ at hx
  obtain ⟨k, -, rfl⟩ := List.mem_map.1 hx
  exact resN_lt q _ hq
def autRow (n q k : Nat) (a : List Nat) : List Nat := mapZ n q (autI n k (cf a))
/-! The laws, row by row. -/
end Go.Proofs.Ytkjlfjnncdkmlaa.G

/- Walks: the rows of sums and differences. -/
namespace Go.Proofs.Ytkjlfjnncdkmlaa.G
set_option linter.all false
open Go.RowKit Go.Shelf Go.BigFrame
structure RowAt (W : World) (B c i n : Nat) (x : List Nat) (ab ao len ac : Nat) (xa : Option Addr) (xc : Nat) : Prop where
  c2 : W.cell? ⟨c, 2, none⟩ = some (.slice (some ⟨ab, ao, none⟩) len ac)
  il : i < len
  lc : len ≤ ac
  ac2 : ac ≤ 9223372036854775807
  abB : ab < B
  row : W.cell? ⟨ab, ao + i, none⟩ = some (.slice xa n xc)
  nc : n ≤ xc
  xc2 : xc ≤ 9223372036854775807
  cell : ∀ k y : Nat, x[k]? = some y → ∃ xb xo, xa = some ⟨xb, xo, none⟩ ∧ xb < B ∧ W.cell? ⟨xb, xo + k, none⟩ = some (.int .u32 (y : Int))
theorem row_at {W : World} {B c i n : Nat} {u0 u1 av : Value} {xs : List (List Nat)} {x : List Nat} (hb : W.heap[c]? = some (.cells #[u0, u1, av] 28)) (hr : W.rows u32V B av xs) (hx : xs[i]? = some x) (hl : x.length = n) :
    ∃ ab ao ac xa xc, av = .slice (some ⟨ab, ao, none⟩) xs.length ac ∧ RowAt W B c i n x ab ao xs.length ac xa xc := by
  obtain ⟨a, cap, rfl, h1, h2, h3⟩ := hr.shape
  obtain ⟨b, off, b2, c2, rfl, h4, h5, h6⟩ := h3 i x hx
  rw [hl] at h5 h6
  obtain ⟨xa, xc, he, k1, k2, k3⟩ := reads_u32 h6
  injection he with e1 e2 e3
  subst e1 e3
  rw [hl] at k1
  refine ⟨b, off, cap, b2, c2, rfl, ?_, (List.getElem?_eq_some_iff.1 hx).1, h1, h2, h4, h5, k1, k2, k3⟩
  rw [cell_of_row W c 2 _ _ (0, 0) hb]; rfl
end Go.Proofs.Ytkjlfjnncdkmlaa.G

/- Walks: the rows of products. -/
namespace Go.Proofs.Ytkjlfjnncdkmlaa.G
set_option linter.all false
open Go.RowKit Go.Shelf Go.BigFrame
theorem grown_drewN {W W' : World} {r : Option Nat} (h : W.grownBy W' r) (n : Nat) : W.grownBy (W'.drewN n) r := ⟨h.os, h.tape, h.output, h.size, h.block⟩
end Go.Proofs.Ytkjlfjnncdkmlaa.G

/- Drawn regions with calls and allocations: what holds behind each operation is kept by whatever is allocated or called, so that an allocation may come up at any time. -/
namespace Go
open Go.RowKit Go.Shelf
section
variable {P : Program} {ops : Array Oper} {Q : Exit → Act → World → Prop} {S : World → Prop} {late : Nat → Bool} {B : Nat} {N : Nat → Array Bool → Act → World → Prop}
structure Fact (B : Nat) (S F : World → Prop) : Prop where
  mono : ∀ w w', F w → Below w.heap.size w w' → F w'
  base : ∀ w, F w → B ≤ w.heap.size ∧ S w
def wpAnyA (P : Program) (ops : Array Oper) (Q : Exit → Act → World → Prop) (B : Nat) (S : World → Prop) (late : Nat → Bool) (N : Nat → Array Bool → Act → World → Prop) : Nat → Array Bool → Act → (World → Prop) → Prop
  | 0, listed, a, F => Region.ready .any ops listed = [] ∧ ∀ w, F w → N 0 listed a w
  | fuel + 1, listed, a, F =>
    ((∀ i ∈ Region.ready .any ops listed, late i = true) → ∀ w, F w → N (fuel + 1) listed a w) ∧
    ∀ i ∈ Region.ready .any ops listed, late i = false → ∀ w, F w → wpOp P ops Q i (fun a' w' => Below w.heap.size w w' ∧ ∃ F', Fact B S F' ∧ F' w' ∧ wpAnyA P ops Q B S late N fuel (listed.setIfInBounds i true) a' F') a w
theorem wpAny_of_A (hwait : ∀ i, late i = false → i < ops.size → waitsB ops late i = true) : ∀ (fuel : Nat) (listed : Array Bool) (a : Act) (F : World → Prop) (w : World),
    wpAnyA P ops Q B S late (fun fuel listed a w => wpAny P .any ops Q fuel listed a w) fuel listed a F → F w → wpAny P .any ops Q fuel listed a w := by
  intro fuel
  induction fuel with
  | zero => intro listed a F w H hF; exact H.2 w hF
  | succ fuel ih =>
    intro listed a F w H hF
    by_cases hall : ∀ i ∈ Region.ready .any ops listed, late i = true
    · exact H.1 hall w hF
    · have hex : ∃ i, i ∈ Region.ready .any ops listed ∧ late i = false := by
        refine Classical.byContradiction fun hno => hall fun i hi => ?_
        cases hl : late i with
        | true => rfl
        | false => exact absurd ⟨i, hi, hl⟩ hno
      obtain ⟨i0, hi0, hl0⟩ := hex
      have hs0 : i0 < ops.size := by
        obtain ⟨-, o, ho, -⟩ := mem_ready.1 hi0
        exact (Array.getElem?_eq_some_iff.1 ho).1
      refine ⟨fun h => (by rw [h] at hi0; cases hi0), fun j hj => ?_⟩
      have hjl : late j = false := by
        cases hl : late j with
        | false => rfl
        | true => exact (unlisted_not (mem_ready.1 hi0).1 (late_listed (hwait i0 hl0 hs0) hl hj)).elim
      exact wpOp_mono (fun a' w' ⟨_, F', _, hw', hA⟩ => ih _ a' F' w' hA hw') (H.2 j hj hjl w hF)
theorem wpAnyA_first {i : Nat} {oi : Oper} {v : Value} (hl : late i = false) (hi : ops[i]? = some oi) (hsel : ∀ (j : Nat) (o : Oper) cs b, ops[j]? = some o → o.op ≠ .select cs b)
    (hQ : ∀ c a w, Q (.panic c) (a.put oi.dst v) w → Q (.panic c) a w) :
    ∀ (fuel : Nat) (listed : Array Bool) (a : Act) (F : World → Prop),
      (∀ j oj, ops[j]? = some oj → j ≠ i → listed.getD j true = false → (∀ e ∈ oj.after, Region.binds .any e = true → e.on ≠ i) → oi.apart ops oj = true) →
      i ∈ Region.ready .any ops listed → YieldsIf P ops S oi v a → Fact B S F →
      wpAnyA P ops Q B S late N fuel (listed.setIfInBounds i true) (a.put oi.dst v) F → wpAnyA P ops Q B S late N (fuel + 1) listed a F := by
  intro fuel
  induction fuel with
  | zero =>
    intro listed a F _ hr hy hF H
    refine ⟨fun h => absurd (h i hr) (by rw [hl]; decide), fun j hj _ w hw => ?_⟩
    by_cases hji : j = i
    · subst hji; exact hy.wpOp hi (hF.base w hw).2 ⟨Below.refl _ _, F, hF, hw, H⟩
    · have := ready_mono hj hji
      rw [H.1] at this
      cases this
  | succ fuel ih =>
    intro listed a F hfree hr hy hF H
    refine ⟨fun h => absurd (h i hr) (by rw [hl]; decide), fun j hj hjl w hw => ?_⟩
    by_cases hji : j = i
    · subst hji; exact hy.wpOp hi (hF.base w hw).2 ⟨Below.refl _ _, F, hF, hw, H⟩
    · have h1 := H.2 j (ready_mono hj hji) hjl w hw
      obtain ⟨hjun, oj, hoj, hall⟩ := mem_ready.1 hj
      have hnot : ∀ e ∈ oj.after, Region.binds .any e = true → e.on ≠ i := fun e he hb heq => by
        have h1 := hall e he hb
        rw [heq] at h1
        exact unlisted_not (mem_ready.1 hr).1 h1
      have h2 := wpOp_putIf hoj (hfree j oj hoj hji hjun hnot) (fun cs b => hsel i oi cs b hi) (fun cs b => hsel j oj cs b hoj) hQ hy h1
      have hfree' : ∀ k ok, ops[k]? = some ok → k ≠ i → (listed.setIfInBounds j true).getD k true = false →
          (∀ e ∈ ok.after, Region.binds .any e = true → e.on ≠ i) → oi.apart ops ok = true := fun k ok hk hki hun hno => by
        refine hfree k ok hk hki ?_ hno
        by_cases hjk : j = k
        · subst hjk; exact hjun
        · rw [getD_set_ne true hjk] at hun; exact hun
      refine wpOp_mono (fun a' w' h3 => ?_) h2
      obtain ⟨hy', hb, F', hF', hw', hA⟩ := h3
      refine ⟨hb, F', hF', hw', ih (listed.setIfInBounds j true) a' F' hfree' (ready_mono hr (Ne.symm hji)) hy' hF' ?_⟩
      rw [Array.setIfInBounds_comm _ _ hji]
      exact hA
theorem wpOp_over {j : Nat} {oi oj : Oper} {v : Value} (hj : ops[j]? = some oj) (hap : oi.apart ops oj = true) (hsj : ∀ cs b, oj.op ≠ .select cs b)
    (hQ : ∀ c a w, Q (.panic c) a w → Q (.panic c) (a.put oi.dst v) w) {K : Act → World → Prop} {a : Act} {w : World} (h : wpOp P ops Q j K a w) :
    wpOp P ops Q j (fun a1 w1 => ∃ a', a1 = a'.put oi.dst v ∧ K a' w1) (a.put oi.dst v) w := by
  obtain ⟨h1, h2, h3⟩ := Oper.apart_spec hap
  unfold wpOp at *
  simp only [hj] at *
  rw [wanted_put oj a oi.dst v h1]
  split
  · rename_i hw
    simp only [hw, if_true] at h
    rcases h with h | ⟨hasks, hlets⟩
    case inr => exact .inr ⟨by unfold Oper.asks at *; rw [execOp_put oj hsj a oi.dst v h1]; exact hasks, hlets⟩
    refine .inl ?_
    unfold Oper.wp at *
    rw [execOp_put oj hsj a oi.dst v h1]
    generalize (execOp a.eval oj).run P w = r at *
    cases r with
    | ok n w' =>
      cases n <;> simp only [Oper.upon] at h ⊢
      case value u => exact ⟨_, Act.put_comm a v u h2, h⟩
      case skip => exact ⟨_, Act.put_comm a v undef h2, h⟩
      case defer d => exact ⟨_, by rw [Act.put_defers, Act.put_comm _ v undef h2], h⟩
      case enter f args =>
        refine Calls.mono h fun e w'' he => ?_
        cases e with
        | returned u => exact ⟨_, Act.put_comm a v u h2, he⟩
        | panicked c => exact hQ _ _ _ he
        | outgrown => exact he
      case row row args => exact Rows.mono h fun u w'' he => ⟨_, Act.put_comm a v u h2, he⟩
    | halt x w' =>
      cases x <;> simp only [Oper.upon] at h ⊢
      case panic u => exact hQ _ _ _ h
      all_goals exact h
  · rename_i hw
    simp only [hw] at h
    exact ⟨_, Act.put_comm a v undef h2, h⟩
def freeA (ops : Array Oper) (late : Nat → Bool) (listed : Array Bool) (i : Nat) : Bool :=
  match ops[i]? with
  | none => false
  | some oi => (List.range ops.size).all fun j => j == i || listed.getD j true || late j || match ops[j]? with
      | some oj => oi.apart ops oj
      | none => true
theorem freeA_spec {i : Nat} {oi : Oper} {listed : Array Bool} (hi : ops[i]? = some oi) (h : freeA ops late listed i = true) (j : Nat) (oj : Oper) (hj : ops[j]? = some oj) (hne : j ≠ i) (hun : listed.getD j true = false) (hl : late j = false) : oi.apart ops oj = true := by
  simp only [freeA, hi, List.all_eq_true, List.mem_range] at h
  have h1 := h j (Array.getElem?_eq_some_iff.1 hj).1
  simpa only [hj, Bool.or_eq_true, beq_iff_eq, hne, false_or, hun, hl, Bool.false_eq_true] using h1
def WithC (C : Nat → Prop) (o : Obj) (dst : Option Tmp) (N : Nat → Array Bool → Act → World → Prop) : Nat → Array Bool → Act → World → Prop :=
  fun fuel listed a w => ∀ p, C p → w.heap[p]? = some o → N fuel listed (a.put dst (.pointer (some ⟨p, 0, none⟩))) w
def WithNew (B : Nat) (o : Obj) (dst : Option Tmp) (N : Nat → Array Bool → Act → World → Prop) : Nat → Array Bool → Act → World → Prop := WithC (fun p => B ≤ p) o dst N
theorem hold_heap {w w' : World} {g : Nat} {o : Obj} (h : w.heap[g]? = some o) (hb : Below w.heap.size w w') : w'.heap[g]? = some o := (hb.block _ (by
  rcases Nat.lt_or_ge g w.heap.size with h1 | h1
  · exact h1
  · rw [Array.getElem?_eq_none h1] at h; cases h)).trans h
theorem Fact.and {F : World → Prop} {p : Nat} {o : Obj} (hF : Fact B S F) : Fact B (fun w => S w ∧ w.heap[p]? = some o) (fun w => F w ∧ w.heap[p]? = some o) :=
  ⟨fun x y hx hxy => ⟨hF.mono x y hx.1 hxy, hold_heap hx.2 hxy⟩, fun x hx => ⟨(hF.base x hx.1).1, (hF.base x hx.1).2, hx.2⟩⟩
theorem wpAnyA_mono {S' : World → Prop} {N' : Nat → Array Bool → Act → World → Prop} (hS : ∀ w, S' w → S w) (hN : ∀ f l a w, N' f l a w → N f l a w) :
    ∀ (fuel : Nat) (listed : Array Bool) (a : Act) (F : World → Prop), wpAnyA P ops Q B S' late N' fuel listed a F → wpAnyA P ops Q B S late N fuel listed a F := by
  intro fuel
  induction fuel with
  | zero => intro listed a F H; exact ⟨H.1, fun w hw => hN _ _ _ _ (H.2 w hw)⟩
  | succ fuel ih =>
    intro listed a F H
    refine ⟨fun h w hw => hN _ _ _ _ (H.1 h w hw), fun j hj hjl w hw => wpOp_mono (fun a' w' h3 => ?_) (H.2 j hj hjl w hw)⟩
    obtain ⟨hb, F', hF', hw', hA⟩ := h3
    exact ⟨hb, F', ⟨hF'.mono, fun x hx => ⟨(hF'.base x hx).1, hS _ (hF'.base x hx).2⟩⟩, hw', ih _ _ _ hA⟩
theorem wpAnyA_over {i : Nat} {oi : Oper} {o : Obj} {p : Nat} {C : Nat → Prop} (hsel : ∀ (j : Nat) (o : Oper) cs b, ops[j]? = some o → o.op ≠ .select cs b)
    (hQ : ∀ v c a w, Q (.panic c) a w → Q (.panic c) (a.put oi.dst v) w) (hC : C p) :
    ∀ (fuel : Nat) (listed : Array Bool) (a : Act) (F : World → Prop), (∀ j oj, ops[j]? = some oj → j ≠ i → listed.getD j true = false → late j = false → oi.apart ops oj = true) → listed.getD i true = true →
      wpAnyA P ops Q B S late (WithC C o oi.dst N) fuel listed a F → wpAnyA P ops Q B (fun w => S w ∧ w.heap[p]? = some o) late N fuel listed (a.put oi.dst (.pointer (some ⟨p, 0, none⟩))) (fun w => F w ∧ w.heap[p]? = some o) := by
  intro fuel
  induction fuel with
  | zero => intro listed a F _ _ H; exact ⟨H.1, fun w hw => H.2 w hw.1 p hC hw.2⟩
  | succ fuel ih =>
    intro listed a F hfree hil H
    refine ⟨fun hall w hw => H.1 hall w hw.1 p hC hw.2, fun j hj hjl w hw => ?_⟩
    obtain ⟨hjun, oj, hoj, hall⟩ := mem_ready.1 hj
    have hji : j ≠ i := by
      rintro rfl
      rw [hil] at hjun
      cases hjun
    have h2 := wpOp_over (oi := oi) (v := .pointer (some ⟨p, 0, none⟩)) hoj (hfree j oj hoj hji hjun hjl) (fun cs b => hsel j oj cs b hoj) (hQ _) (H.2 j hj hjl w hw.1)
    refine wpOp_mono (fun a1 w1 h3 => ?_) h2
    obtain ⟨a', rfl, hb, F', hF', hw', hA⟩ := h3
    refine ⟨hb, _, hF'.and, ⟨hw', hold_heap hw.2 hb⟩, ih _ a' F' (fun k ok hk hki hun hl => ?_) ?_ hA⟩
    · refine hfree k ok hk hki ?_ hl
      by_cases hjk : j = k
      · subst hjk; exact hjun
      · rw [getD_set_ne true hjk] at hun; exact hun
    · rw [getD_set_ne true hji]; exact hil
theorem getD_set_self {l : Array Bool} {i : Nat} : (l.setIfInBounds i true).getD i true = true := by
  rcases Nat.lt_or_ge i l.size with h | h <;> simp [h]
theorem wpAnyA_alloc' {i : Nat} {oi : Oper} {o : Obj} {C : Nat → Prop} (hl : late i = false) (hi : ops[i]? = some oi) (hsel : ∀ (j : Nat) (o : Oper) cs b, ops[j]? = some o → o.op ≠ .select cs b)
    (hwant : ∀ y, Region.wanted oi y = true) (hrun : ∀ (a : Act) w, (execOp a.eval oi).run P w = .ok (.value (.pointer (some ⟨w.heap.size, 0, none⟩))) (w.alloc o))
    (hQ : ∀ v c a w, Q (.panic c) a w → Q (.panic c) (a.put oi.dst v) w) (hC : ∀ w, S w → B ≤ w.heap.size → C w.heap.size) :
    ∀ (fuel : Nat) (listed : Array Bool) (a : Act) (F : World → Prop), (∀ j oj, ops[j]? = some oj → j ≠ i → listed.getD j true = false → late j = false → oi.apart ops oj = true) →
      i ∈ Region.ready .any ops listed → Fact B S F →
      wpAnyA P ops Q B S late (WithC C o oi.dst N) fuel (listed.setIfInBounds i true) a F → wpAnyA P ops Q B S late N (fuel + 1) listed a F := by
  have hstep : ∀ (fuel : Nat) (listed : Array Bool) (a : Act) (F : World → Prop) (w : World), (∀ j oj, ops[j]? = some oj → j ≠ i → listed.getD j true = false → late j = false → oi.apart ops oj = true) →
      i ∈ Region.ready .any ops listed → Fact B S F → F w → wpAnyA P ops Q B S late (WithC C o oi.dst N) fuel (listed.setIfInBounds i true) a F →
      wpOp P ops Q i (fun a' w' => Below w.heap.size w w' ∧ ∃ F', Fact B S F' ∧ F' w' ∧ wpAnyA P ops Q B S late N fuel (listed.setIfInBounds i true) a' F') a w := by
    intro fuel listed a F w hfree hr hF hw H
    have hb : Below w.heap.size w (w.alloc o) := (Below.refl _ _).alloc (Nat.le_refl _) _
    have hB := (hF.base w hw).1
    have hfree' : ∀ j oj, ops[j]? = some oj → j ≠ i → (listed.setIfInBounds i true).getD j true = false → late j = false → oi.apart ops oj = true := fun j oj hj hji hun hjl => by
      rw [getD_set_ne true (Ne.symm hji)] at hun
      exact hfree j oj hj hji hun hjl
    unfold wpOp
    simp only [hi, hwant, if_true]
    refine .inl ?_
    unfold Oper.wp
    rw [hrun]
    exact ⟨hb, _, ⟨fun x y hx hxy => (hF.and (p := w.heap.size) (o := o)).mono x y hx hxy, fun x hx => hF.base x hx.1⟩, ⟨hF.mono _ _ hw hb, heap_alloc_new w o⟩, wpAnyA_mono (fun _ h => h.1) (fun _ _ _ _ h => h) _ _ _ _ (wpAnyA_over hsel hQ (hC w (hF.base w hw).2 hB) fuel _ a F hfree' getD_set_self H)⟩
  intro fuel
  induction fuel with
  | zero =>
    intro listed a F hfree hr hF H
    refine ⟨fun h => absurd (h i hr) (by rw [hl]; decide), fun j hj hjl w hw => ?_⟩
    by_cases hji : j = i
    · subst hji; exact hstep 0 listed a F w hfree hr hF hw H
    · have := ready_mono hj hji
      rw [H.1] at this
      cases this
  | succ fuel ih =>
    intro listed a F hfree hr hF H
    refine ⟨fun h => absurd (h i hr) (by rw [hl]; decide), fun j hj hjl w hw => ?_⟩
    by_cases hji : j = i
    · subst hji; exact hstep (fuel + 1) listed a F w hfree hr hF hw H
    · have h1 := H.2 j (ready_mono hj hji) hjl w hw
      obtain ⟨hjun, oj, hoj, hall⟩ := mem_ready.1 hj
      refine wpOp_mono (fun a' w' h3 => ?_) h1
      obtain ⟨hb, F', hF', hw', hA⟩ := h3
      refine ⟨hb, F', hF', hw', ih (listed.setIfInBounds j true) a' F' (fun k ok hk hki hun hkl => ?_) (ready_mono hr (Ne.symm hji)) hF' ?_⟩
      · refine hfree k ok hk hki ?_ hkl
        by_cases hjk : j = k
        · subst hjk; exact hjun
        · rw [getD_set_ne true hjk] at hun; exact hun
      · rw [Array.setIfInBounds_comm _ _ hji]
        exact hA
theorem fact_below {W : World} (hB : B ≤ W.heap.size) (hS : ∀ w, Below W.heap.size W w → S w) : Fact B S (fun w => Below W.heap.size W w) :=
  ⟨fun _ _ h h2 => h.trans (h2.mono h.size), fun w h => ⟨Nat.le_trans hB h.size, hS w h⟩⟩
theorem wpAnyA_take (i : Nat) {oi : Oper} {v : Value} {fuel : Nat} {listed : Array Bool} {a : Act} {F : World → Prop} (hr : (Region.ready .any ops listed).contains i = true) (hl : late i = false) (hi : ops.toList[i]? = some oi)
    (hs : Region.noSelect ops = true) (hf : Region.free .any ops listed i = true)
    (hQ : ∀ c a w, Q (.panic c) (a.put oi.dst v) w → Q (.panic c) a w) (hy : YieldsIf P ops S oi v a) (hF : Fact B S F)
    (h : wpAnyA P ops Q B S late N fuel (listed.setIfInBounds i true) (a.put oi.dst v) F) : wpAnyA P ops Q B S late N (fuel + 1) listed a F :=
  wpAnyA_first hl (by simpa using hi) (Region.noSelect_spec hs) hQ fuel listed a F (Region.free_spec (by simpa using hi) hf) (by simpa using hr) hy hF h
theorem wpAnyA_alloc (i : Nat) {oi : Oper} {fuel : Nat} {listed : Array Bool} {a : Act} {F : World → Prop} (o : Obj) (hr : (Region.ready .any ops listed).contains i = true) (hl : late i = false) (hi : ops.toList[i]? = some oi)
    (hs : Region.noSelect ops = true) (hf : freeA ops late listed i = true) (hwant : ∀ y, Region.wanted oi y = true)
    (hrun : ∀ (a : Act) w, (execOp a.eval oi).run P w = .ok (.value (.pointer (some ⟨w.heap.size, 0, none⟩))) (w.alloc o))
    (hQ : ∀ v c a w, Q (.panic c) a w → Q (.panic c) (a.put oi.dst v) w) (hF : Fact B S F)
    (h : wpAnyA P ops Q B S late (WithNew B o oi.dst N) fuel (listed.setIfInBounds i true) a F) : wpAnyA P ops Q B S late N (fuel + 1) listed a F :=
  wpAnyA_alloc' hl (by simpa using hi) (Region.noSelect_spec hs) hwant hrun hQ (fun _ _ h => h) fuel listed a F (freeA_spec (by simpa using hi) hf) (by simpa using hr) hF h
theorem wpAnyA_step (i : Nat) {o : Oper} {fuel : Nat} {listed : Array Bool} {a : Act} {F : World → Prop} (hr : Region.ready .any ops listed = [i]) (hl : late i = false) (ho : ops.toList[i]? = some o)
    (h : ∀ w, F w → ∀ K' : Act → World → Prop, Shut (∀ a' w', Below w.heap.size w w' → ∀ F' : World → Prop, Fact B S F' → F' w' → wpAnyA P ops Q B S late N fuel (listed.setIfInBounds i true) a' F' → K' a' w') → if Region.wanted o (yielded ops a.tmps) = true then Oper.wp P o a w K' Q else K' (a.put o.dst undef) w) :
    wpAnyA P ops Q B S late N (fuel + 1) listed a F := by
  refine ⟨fun hall => ?_, fun j hj _ w hw => ?_⟩
  · have := hall i (by rw [hr]; exact List.mem_singleton.2 rfl)
    rw [hl] at this; cases this
  · rw [hr] at hj
    obtain rfl : j = i := by simpa using hj
    exact wpOp_step (by simpa using ho) (fun K' hK => h w hw K' (fun a' w' hb F' hF' hw' hA => hK a' w' ⟨hb, F', hF', hw', hA⟩))
theorem wpAnyA_end {fuel : Nat} {listed : Array Bool} {a : Act} {F : World → Prop} (hr : (Region.ready .any ops listed).all late = true) (h : ∀ w, F w → N (fuel + 1) listed a w) : wpAnyA P ops Q B S late N (fuel + 1) listed a F := by
  refine ⟨fun _ => h, fun i hi hl => ?_⟩
  have := List.all_eq_true.1 hr i hi
  rw [hl] at this; cases this
def waitsA (ops : Array Oper) (late : Nat → Bool) : Bool := (List.range ops.size).all fun i => late i || waitsB ops late i
theorem waitsA_spec (h : waitsA ops late = true) (i : Nat) (hl : late i = false) (hi : i < ops.size) : waitsB ops late i = true := by
  have := List.all_eq_true.1 h i (List.mem_range.2 hi)
  rw [hl, Bool.false_or] at this
  exact this
end
end Go

/- Walks: sums, differences and products of elements (the program's). -/
namespace Go.Proofs.Ytkjlfjnncdkmlaa.G
set_option linter.all false
open Go.RowKit Go.Shelf Go.BigFrame
theorem zip_fin (f : Nat → List Nat → List Nat → List Nat) (ml : List Nat) (xs ys : List (List Nat)) : (List.finRange ml.length).map (fun x => f (modAt ml x) (xs.getD x.val []) (ys.getD x.val [])) = zipRows f ml xs ys ml.length := by
  unfold zipRows
  apply List.ext_getElem
  · simp
  · intro i h1 h2
    have hi : i < ml.length := by simpa using h2
    simp only [List.getElem_map, List.getElem_finRange, List.getElem_range]
    have : ml.getD i 0 = ml[i] := by rw [List.getD_eq_getElem?_getD, List.getElem?_eq_getElem hi]; rfl
    rw [this]
    rfl
theorem fin_elt {n : Nat} {ml : List Nat} {xs : List (List Nat)} (h : EltOk n ml xs) (x : Fin ml.length) : xs[x.val]? = some (xs.getD x.val []) ∧ (xs.getD x.val []).length = n ∧ ∀ v ∈ xs.getD x.val [], v < modAt ml x := by
  have hx : x.val < xs.length := by rw [h.1]; exact x.isLt
  have h1 : xs[x.val]? = some xs[x.val] := List.getElem?_eq_getElem hx
  have h2 : xs.getD x.val [] = xs[x.val] := by rw [List.getD_eq_getElem?_getD, h1]; rfl
  rw [h2]
  obtain ⟨k1, q, k2, k3⟩ := h.2 _ _ h1
  have hq : modAt ml x = q := by
    rw [List.getElem?_eq_getElem x.isLt] at k2
    injection k2
  rw [hq]
  exact ⟨h1, k1, k3⟩
theorem each_zip (n lv : Nat) (pr pw wt er : Int) (cv : Value) (chain : List Nat) (sp : Nat) (special : Bool) (xs ys : List (List Nat)) (p : Nat) (W : World) (f : Nat → List Nat → List Nat → List Nat) (F : FuncId) (caps : Array Value)
    (hr : W.reads W.heap.size cv (chain.map u32V)) (hp : W.heap[p]? = some (.cells #[.int .i64 (n : Int), .int .u32 pr, .int .i64 pw, cv, .int .u32 (sp : Int), .int .i64 wt, .int .u32 er] 25))
    (hlv1 : 1 ≤ lv) (hlv2 : lv ≤ chain.length) (h24 : chain.length ≤ 24) (hn : n ≤ 32) (hmok : ∀ q ∈ modl chain sp lv special, 3 ≤ q ∧ q ≤ 2147483647)
    (hfl : ∀ q ∈ modl chain sp lv special, ∀ a b, (f q a b).length = n)
    (hF : Fills F caps n (fun x => #[.int .i64 (x.val : Int), .int .u64 (modAt (modl chain sp lv special) x : Int)]) (fun x => f (modAt (modl chain sp lv special) x) (xs.getD x.val []) (ys.getD x.val [])) W)
    (heF : ∀ args W, (callFunc F args).run Try.prog W = .ok (.enter F args) W) :
    Calls Try.prog 46 #[.pointer (some ⟨p, 0, none⟩), .int .i64 (lv : Int), .bool special, .func (.func F) #[] caps] W (MadeElt (lv : Int) special (zipRows f (modl chain sp lv special) xs ys (modl chain sp lv special).length) W) := by
  have hm : ∀ x, modAt (modl chain sp lv special) x ∈ modl chain sp lv special := fun x => List.getElem_mem _
  refine (each_any n (by omega) pr pw wt er cv chain sp lv special p W hlv2 h24 hlv1 (fun x => by have := hmok _ (hm x); omega) hr hp F caps _ (fun x => hfl _ (hm x) _ _) hF heF).mono ?_
  rintro e w' ⟨⟨rv, he, hrv⟩, hb⟩
  refine ⟨⟨rv, he, ?_⟩, hb⟩
  rw [← zip_fin]
  exact hrv.2
end Go.Proofs.Ytkjlfjnncdkmlaa.G

/- Walks: the rows of multiples. -/
namespace Go.Proofs.Ytkjlfjnncdkmlaa.G
set_option linter.all false
open Go.RowKit Go.Shelf Go.BigFrame
set_option maxRecDepth 100000 in
set_option maxHeartbeats 8000000 in
theorem mulint1_any (i q n g cn ca B : Nat) (m : Int) (u0 u1 av : Value) (xs : List (List Nat)) (x zs : List Nat) (W : World) (hq3 : 3 ≤ q) (hqm : q ≤ 2147483647) (hn : n ≤ 1000) (hi : i ≤ 1000) (hm1 : -9223372036854775808 ≤ m) (hm2 : m ≤ 9223372036854775807)
    (hm : W.heap[cn]? = some (.cells #[.int .i64 m] 2))
    (ha : W.heap[ca]? = some (.cells #[u0, u1, av] 28)) (hra : W.rows u32V B av xs) (hx : xs[i]? = some x) (hxl : x.length = n) (hxq : ∀ v ∈ x, v < q) (hzs : ∀ j, zs.getD j 0 = 0)
    (hcn : cn < B) (hca : ca < B) (hB : B ≤ g) (hg : W.heap[g]? = some (.cells (zrow n) 22)) :
    Calls Try.prog 61 #[.int .i64 (i : Int), .int .u64 (q : Int), .slice (some ⟨g, 0, none⟩) n n, .pointer (some ⟨cn, 0, none⟩), .pointer (some ⟨ca, 0, none⟩)] W fun e W' => e = .returned (.tuple #[]) ∧ W'.heap[g]? = some (.cells ((sumRow m n q zs x).map u32V).toArray 22) ∧ W.grownBy W' (some g) := by
  obtain ⟨ab, ao, ac, xa, xc, -, RA⟩ := row_at ha hra hx hxl
  obtain ⟨f, hf⟩ : ∃ f : Nat → Nat, f = fun j => x.getD j 0 * resN q m % q := ⟨_, rfl⟩
  have hrow : ((sumRow m n q zs x).map u32V).toArray = fillTo f n n := by
    rw [fillTo_all, hf]; congr 1
    unfold sumRow
    rw [List.map_map]
    refine List.map_congr_left fun j _ => ?_
    show u32V ((zs.getD j 0 + x.getD j 0 * resN q m) % q) = _
    rw [hzs j, Nat.zero_add]
  rw [hrow]
  rw [← fillTo_zero f] at hg
  have hcq : resN q m < q := resN_lt q m (by omega)
  obtain ⟨d, hd, hd1, hd2, hd3, hd4⟩ := tmod_parts m q (by omega)
  obtain ⟨c, hc⟩ : ∃ c, c = resN q m := ⟨_, rfl⟩
  rw [← hc] at hcq hd3 hd4
  have hd5 : (d + (q : Int)).tmod (q : Int) = (c : Int) := by
    rw [Int.tmod_eq_emod_of_nonneg (by omega)]
    by_cases h : d < 0
    · rw [hd3 h]; exact Int.emod_eq_of_lt (by omega) (by omega)
    · rw [Int.add_emod_right, hd4 (by omega)]; exact Int.emod_eq_of_lt (by omega) (by omega)
  have HA := Lib.hid RA
  have HXQ : Hid (∀ k v : Nat, x[k]? = some v → v < q) := fun k v h => hxq v (List.mem_of_getElem? h)
  have HXL := Lib.hid hxl
  have HF := Lib.hid hf
  have HC := Lib.hid hc
  obtain ⟨L1, hL1⟩ : ∃ L, L = xs.length := ⟨_, rfl⟩
  rw [← hL1] at HA
  have q1 := HA.out.il
  have q2 := HA.out.lc
  have q5 := HA.out.nc
  have p1 : (i : Int) < (L1 : Int) := by omega
  have z0 : W.cell? ⟨cn, 0, none⟩ = some (.int .i64 m) := by rw [cell_of_row W cn 0 _ _ (0, 0) hm]; rfl
  have z1 : ((q : Int) == 0) = false := by rw [beq_eq_false_iff_ne]; omega
  have z2 : ¬ q = 0 := by omega
  have z3 : (0 : Int) < (q : Int) := by omega
  obtain ⟨s, hs⟩ : ∃ s, s = d + (q : Int) := ⟨_, rfl⟩
  rw [← hs] at hd5
  have hs2 := hs.symm
  have hsb : 0 ≤ s ∧ s ≤ 4294967294 := by omega
  clear ha hra hx hxl hxq RA hf hrow hL1 hc hm hs hd3 hd4
  go_enter Try.func61, Try.ntmps61
  go_upto_region 1 with (fail)
  clear hs2 hd hd5 z0
  go_wp2_with fail
  go_loopw [23] (fun iv wr => ∃ k : Nat, k ≤ n ∧ iv = .int .i64 (k : Int) ∧ Hid (wr.heap[g]? = some (.cells (fillTo f n k) 22)) ∧ Hid (W.grownBy wr (some g))) (fun iv _ => n - (intOf iv).toNat)
  case atStart => exact ⟨0, Nat.zero_le _, rfl, hg, World.grownBy.refl _ _⟩
  case round =>
    obtain ⟨k, hk, rfl, HG, HR⟩ := hrel
    obtain ⟨wo, rfl⟩ : ∃ x, x = wr := ⟨_, rfl⟩
    by_cases hlt : k < n
    · obtain ⟨v, hv⟩ : ∃ v, x[k]? = some v := ⟨x[k]'(by rw [HXL.out]; exact hlt), List.getElem?_eq_getElem _⟩
      obtain ⟨xb, xo, rfl, hxb, hxc⟩ := HA.out.cell k v hv
      have hvq := HXQ.out k v hv
      have c0 := HR.out.cell (a := ⟨ca, 2, none⟩) HA.out.c2 (by simp; omega)
      have c1 := HR.out.cell (a := ⟨ab, ao + i, none⟩) HA.out.row (by have := HA.out.abB; simp; omega)
      have c2 := HR.out.cell (a := ⟨xb, xo + k, none⟩) hxc (by simp; omega)
      have hgx : x.getD k 0 = v := by rw [List.getD_eq_getElem?_getD, hv]; rfl
      obtain ⟨t, ht⟩ : ∃ t, t = f k := ⟨_, rfl⟩
      have HT := Lib.hid ht
      obtain ⟨p, hp⟩ : ∃ p, p = v * c := ⟨_, rfl⟩
      have ht2 : t = p % q := by rw [ht, HF.out, hp]; show x.getD k 0 * resN q m % q = _; rw [hgx, ← HC.out]
      have htq : t < q := by rw [ht2]; exact Nat.mod_lt _ (by omega)
      have hpb : p ≤ 4611686018427387904 := by rw [hp]; exact Nat.mul_le_mul (show v ≤ 2147483648 by omega) (show c ≤ 2147483648 by omega)
      have e1 : (v : Int) * (c : Int) = (p : Int) := by rw [hp]; simp
      have e2 : (p : Int) % (q : Int) = (t : Int) := by rw [ht2]; simp
      have e3 : (p : Int).tmod (q : Int) = (t : Int) := by rw [ht2]; rfl
      have i1 : (k : Int) < (n : Int) := by omega
      have i2 : (0 : Int) ≤ (k : Int) := by omega
      obtain ⟨u9, d0, d1⟩ := fill_cell HG.out hlt
      have HG2 : Hid ((wo.setCell ⟨g, k, none⟩ (.int .u32 (t : Int))).heap[g]? = some (.cells (fillTo f n (k + 1)) 22)) := by
        rw [HT.out]; exact fill_set HG.out
      have HR2 : Hid (W.grownBy (wo.setCell ⟨g, k, none⟩ (.int .u32 (t : Int))) (some g)) := grown_set HR.out _ _
      clear hv hxc hgx ht hp ht2
      go_upto_region 5 with (fail)
      generalize wo.setCell ⟨g, k, none⟩ (.int .u32 (t : Int)) = wn at HG2 HR2 ⊢
      clear c0 c1 c2 d0 d1 e1 e2 e3
      go_wp2_with fail
      go_roundw
      case rel => exact ⟨k + 1, by omega, by go_num, HG2.out, HR2.out⟩
      case measure => simp [intOf]; omega
    · obtain rfl : k = n := by omega
      go_wp2
      go_end0
      exact ⟨rfl, HG.out, HR.out⟩
end Go.Proofs.Ytkjlfjnncdkmlaa.G

/- Walks: the rows of fewer moduli. -/
namespace Go.Proofs.Ytkjlfjnncdkmlaa.G
set_option linter.all false
open Go.RowKit Go.Shelf Go.BigFrame
set_option maxRecDepth 100000 in
set_option maxHeartbeats 8000000 in
theorem restrict1_any (i q n g cl ca B la lv s : Nat) (u1 av : Value) (xs : List (List Nat)) (x : List Nat) (W : World) (hn : n ≤ 1000) (hi : i ≤ 1000) (hla : la ≤ 1000) (hlv : lv ≤ 1000) (hn0 : 0 < n) (hs : s = if i = lv then la else i)
    (hl : W.heap[cl]? = some (.cells #[.int .i64 (lv : Int)] 3))
    (ha : W.heap[ca]? = some (.cells #[.int .i64 (la : Int), u1, av] 28)) (hra : W.rows u32V B av xs) (hx : xs[s]? = some x) (hxl : x.length = n)
    (hca : ca < B) (hB : B ≤ g) (hg : W.heap[g]? = some (.cells (zrow n) 22)) :
    Calls Try.prog 56 #[.int .i64 (i : Int), .int .u64 (q : Int), .slice (some ⟨g, 0, none⟩) n n, .pointer (some ⟨cl, 0, none⟩), .pointer (some ⟨ca, 0, none⟩)] W fun e W' => e = .returned (.tuple #[]) ∧ W'.heap[g]? = some (.cells (x.map u32V).toArray 22) ∧ W.grownBy W' (some g) := by
  obtain ⟨ab, ao, ac, xa, xc, -, RA⟩ := row_at ha hra hx hxl
  have c9 : W.cell? ⟨ca, 0, none⟩ = some (.int .i64 (la : Int)) := by rw [cell_of_row W ca 0 _ _ (0, 0) ha]; rfl
  have c8 : W.cell? ⟨cl, 0, none⟩ = some (.int .i64 (lv : Int)) := by rw [cell_of_row W cl 0 _ _ (0, 0) hl]; rfl
  obtain ⟨v, hv⟩ : ∃ v, x[0]? = some v := ⟨x[0]'(by omega), List.getElem?_eq_getElem _⟩
  obtain ⟨xb, xo, rfl, hxb, hxc⟩ := RA.cell 0 v hv
  have hsrc : ∀ j u, (x.map u32V)[j]? = some u → W.cell? ((⟨xb, xo, none⟩ : Addr).add j) = some u := fun j u hj => by
    rw [List.getElem?_map] at hj
    obtain ⟨z, hz, rfl⟩ := Option.map_eq_some_iff.1 hj
    obtain ⟨b, o, he, -, hc⟩ := RA.cell j z hz
    injection he with he
    injection he with e1 e2 e3
    subst e1 e2
    rw [show (⟨xb, xo, none⟩ : Addr).add j = ⟨xb, xo + j, none⟩ by unfold Addr.add; split <;> simp_all]
    exact hc
  have hrun := run_copy_row (P := Try.prog) W 23 23 3 22 g 0 n n ⟨xb, xo, none⟩ n xc (zrow n) 22 (x.map u32V) Try.underlying23 (by kernel_rfl) hg (by rw [List.length_map, hxl]; exact (Nat.min_self n).symm) hsrc (by rw [List.length_map, hxl, zrow_size]; omega) (by
    intro u hu
    obtain ⟨z, -, rfl⟩ := List.mem_map.1 hu
    rfl)
  have hnew : ((zrow n).toList.take 0 ++ x.map u32V ++ (zrow n).toList.drop (0 + (x.map u32V).length)).toArray = (x.map u32V).toArray := by
    rw [List.length_map, hxl, List.drop_of_length_le (by simp [zrow])]; simp
  rw [hnew] at hrun
  have HG2 : Hid ((W.setRow g (x.map u32V).toArray).heap[g]? = some (.cells (x.map u32V).toArray 22)) := setRow_heap W g _ _ _ _ hg
  have HR2 : Hid (W.grownBy (W.setRow g (x.map u32V).toArray) (some g)) := by
    refine ⟨rfl, rfl, rfl, by simp [World.setRow], fun k hk hne => ?_⟩
    have : k ≠ g := fun e => hne (by rw [e])
    simp [World.setRow, Array.getElem?_modify, Ne.symm this]
  have HRUN := Lib.hid hrun
  have HA := Lib.hid RA
  obtain ⟨L1, hL1⟩ : ∃ L, L = xs.length := ⟨_, rfl⟩
  rw [← hL1] at HA
  have c0 := HA.out.c2
  have c1 := HA.out.row
  have q1 := HA.out.il
  have q2 := HA.out.lc
  have q5 := HA.out.nc
  have p1 : (s : Int) < (L1 : Int) := by omega
  have p3 : (0 : Int) ≤ (s : Int) := by omega
  clear ha hra hx hxl hv hxc hsrc hrun hnew RA hl hL1
  by_cases h : i = lv
  · rw [if_pos h] at hs
    subst hs
    subst h
    go_enter Try.func56, Try.ntmps56
    go_wp2_with fail
    rw [HRUN.out]
    go_wp2
    go_end0
    exact ⟨rfl, HG2.out, HR2.out⟩
  · rw [if_neg h] at hs
    subst hs
    have t0 : ((s : Int) == (lv : Int)) = false := by rw [beq_eq_false_iff_ne]; omega
    go_enter Try.func56, Try.ntmps56
    go_wp2_with fail
    rw [HRUN.out]
    go_wp2
    go_end0
    exact ⟨rfl, HG2.out, HR2.out⟩
end Go.Proofs.Ytkjlfjnncdkmlaa.G

/- Plain: an automorphism permutes coefficients. -/
namespace Go.Proofs.Ytkjlfjnncdkmlaa.G
set_option linter.all false
def SizeN (n : Nat) : Prop := n = 4 ∨ n = 8 ∨ n = 16 ∨ n = 32
theorem SizeN.cop {n k : Nat} (h : SizeN n) (hk : k % 2 = 1) : Nat.Coprime n k := by
  have h2 : Nat.Coprime 2 k := by
    unfold Nat.Coprime
    rw [Nat.gcd_rec, hk]; rfl
  rcases h with rfl | rfl | rfl | rfl
  · exact Nat.Coprime.pow_left 2 h2
  · exact Nat.Coprime.pow_left 3 h2
  · exact Nat.Coprime.pow_left 4 h2
  · exact Nat.Coprime.pow_left 5 h2
def posA (n k j : Nat) : Nat := if j * k % (2 * n) < n then j * k % (2 * n) else j * k % (2 * n) - n
theorem posA_mod {n k j : Nat} (hn : 0 < n) : posA n k j = j * k % n := by
  have h1 := Nat.mod_lt (j * k) (show 0 < 2 * n by omega)
  have h2 : j * k % n = j * k % (2 * n) % n := by rw [Nat.mod_mod_of_dvd _ (Nat.dvd_mul_left n 2)]
  unfold posA
  rw [h2]
  generalize j * k % (2 * n) = r at *
  split
  · rw [Nat.mod_eq_of_lt (by omega)]
  · rw [Nat.mod_eq_sub_mod (by omega), Nat.mod_eq_of_lt (by omega)]
theorem posA_lt {n k j : Nat} (hn : 0 < n) : posA n k j < n := by rw [posA_mod hn]; exact Nat.mod_lt _ hn
theorem posA_inj {n k i j : Nat} (h : SizeN n) (hk : k % 2 = 1) (hij : i < j) (hj : j < n) : posA n k i ≠ posA n k j := by
  have hn : 0 < n := by omega
  intro e
  rw [posA_mod hn, posA_mod hn] at e
  have h1 : n ∣ j * k - i * k := Nat.dvd_of_mod_eq_zero (Nat.sub_mod_eq_zero_of_mod_eq e.symm)
  rw [← Nat.sub_mul] at h1
  have h2 := (h.cop hk).dvd_of_dvd_mul_right h1
  exact absurd (Nat.le_of_dvd (by omega) h2) (by omega)
theorem eN_pos {n k j t : Nat} (hn : 0 < n) (ht : t < n) : eN n (j * k) t = if t = posA n k j then (if j * k % (2 * n) < n then 1 else -1) else 0 := by
  have h1 := Nat.mod_lt (j * k) (show 0 < 2 * n by omega)
  unfold eN posA
  generalize j * k % (2 * n) = r at *
  (repeat' split) <;> omega
def autTo (n k : Nat) (f : Nat → Int) (j t : Nat) : Int := sumN (fun i => eN n (i * k) t * f i) j
theorem autTo_zero {n k : Nat} (h : SizeN n) (hk : k % 2 = 1) (f : Nat → Int) {j : Nat} (hj : j < n) : autTo n k f j (posA n k j) = 0 := by
  have hn : 0 < n := by omega
  unfold autTo
  rw [sumN_congr (g := fun _ => 0) (fun i hi => by rw [eN_pos hn (posA_lt hn), if_neg (fun e => posA_inj h hk hi hj e.symm), Int.zero_mul]), sumN_zero]
theorem autTo_step {n k q : Nat} (h : SizeN n) (hk : k % 2 = 1) (hq : 0 < q) (a : List Nat) {j : Nat} (hj : j < n) (v : Nat) (hv : ((v : Nat) : Int) = (resN q ((if j * k % (2 * n) < n then 1 else -1) * cf a j) : Nat)) (t : Nat) (ht : t < n) :
    resN q (autTo n k (cf a) (j + 1) t) = if t = posA n k j then v else resN q (autTo n k (cf a) j t) := by
  have hn : 0 < n := by omega
  show resN q (autTo n k (cf a) j t + eN n (j * k) t * cf a j) = _
  rw [eN_pos hn ht]
  by_cases e : t = posA n k j
  · rw [if_pos e, if_pos e, e, autTo_zero h hk _ hj, Int.zero_add]
    omega
  · rw [if_neg e, if_neg e, Int.zero_mul, Int.add_zero]
theorem neg_res {q x : Nat} (hq : 0 < q) (hx : x < q) : (q - x) % q = resN q (-(x : Int)) := by
  rw [← resN_cast]
  exact resN_eq q hq _ _ 1 (by omega)
end Go.Proofs.Ytkjlfjnncdkmlaa.G

/- Walks: the rows under an automorphism. -/
namespace Go.Proofs.Ytkjlfjnncdkmlaa.G
set_option linter.all false
open Go.RowKit Go.Shelf Go.BigFrame
set_option maxRecDepth 100000 in
set_option maxHeartbeats 8000000 in
theorem auto1_any (i q n g ck ca cp B kk : Nat) (u0 u1 av p1 p2 p3 p4 p5 p6 : Value) (xs : List (List Nat)) (x : List Nat) (W : World) (hq3 : 3 ≤ q) (hqm : q ≤ 2147483647) (hn : SizeN n) (hi : i ≤ 1000) (hk1 : kk % 2 = 1) (hk2 : kk < 2 * n)
    (hk : W.heap[ck]? = some (.cells #[.int .i64 (kk : Int)] 3))
    (hp : W.heap[cp]? = some (.cells #[.int .i64 (n : Int), p1, p2, p3, p4, p5, p6] 25))
    (ha : W.heap[ca]? = some (.cells #[u0, u1, av] 28)) (hra : W.rows u32V B av xs) (hx : xs[i]? = some x) (hxl : x.length = n) (hxq : ∀ v ∈ x, v < q)
    (hck : ck < B) (hca : ca < B) (hcp : cp < B) (hB : B ≤ g) (hg : W.heap[g]? = some (.cells (zrow n) 22)) :
    Calls Try.prog 58 #[.int .i64 (i : Int), .int .u64 (q : Int), .slice (some ⟨g, 0, none⟩) n n, .pointer (some ⟨ca, 0, none⟩), .pointer (some ⟨ck, 0, none⟩), .pointer (some ⟨cp, 0, none⟩)] W fun e W' => e = .returned (.tuple #[]) ∧ W'.heap[g]? = some (.cells ((autRow n q kk x).map u32V).toArray 22) ∧ W.grownBy W' (some g) := by
  obtain ⟨ab, ao, ac, xa, xc, -, RA⟩ := row_at ha hra hx hxl
  have hn4 : 4 ≤ n ∧ n ≤ 32 := by unfold SizeN at hn; omega
  have hq0 : 0 < q := by omega
  obtain ⟨f, hf⟩ : ∃ f : Nat → Nat → Nat, f = fun j t => resN q (autTo n kk (cf x) j t) := ⟨_, rfl⟩
  have hrow : ((autRow n q kk x).map u32V).toArray = nrow (f n) n := by
    rw [hf]
    unfold autRow mapZ nrow
    rw [List.map_map]
    rfl
  rw [hrow]
  have h0 : zrow n = nrow (f 0) n := by
    rw [nrow_zero]
    refine nrow_congr fun t _ => ?_
    rw [hf]
    show 0 = resN q (autTo n kk (cf x) 0 t)
    exact (resN_nat q 0 hq0).symm
  rw [h0] at hg
  have HSTEP : Hid (∀ (j v : Nat), j < n → ((v : Nat) : Int) = (resN q ((if j * kk % (2 * n) < n then 1 else -1) * cf x j) : Nat) → (nrow (f j) n).setIfInBounds (posA n kk j) (.int .u32 (v : Int)) = nrow (f (j + 1)) n) := fun j v hj hv => by
    rw [nrow_set]
    refine nrow_congr fun t ht => ?_
    rw [hf]
    exact (autTo_step hn hk1 hq0 x hj v hv t ht).symm
  have HA := Lib.hid RA
  have HXQ : Hid (∀ k v : Nat, x[k]? = some v → v < q) := fun k v h => hxq v (List.mem_of_getElem? h)
  have HXL := Lib.hid hxl
  obtain ⟨L1, hL1⟩ : ∃ L, L = xs.length := ⟨_, rfl⟩
  rw [← hL1] at HA
  have q1 := HA.out.il
  have q2 := HA.out.lc
  have q5 := HA.out.nc
  have t1 : (i : Int) < (L1 : Int) := by omega
  have z1 : ((q : Int) == 0) = false := by rw [beq_eq_false_iff_ne]; omega
  have z2 : ¬ q = 0 := by omega
  have z3 : (0 : Int) < (q : Int) := by omega
  obtain ⟨n2, hn2⟩ : ∃ n2, n2 = 2 * n := ⟨_, rfl⟩
  have z4 : 2 * (n : Int) = (n2 : Int) := by omega
  have z5 : ((n2 : Int) == 0) = false := by rw [beq_eq_false_iff_ne]; omega
  have z6 : ¬ n2 = 0 := by omega
  have hn2b : n2 ≤ 64 := by omega
  have HN2 := Lib.hid hn2
  have HKC : Hid (W.cell? ⟨ck, 0, none⟩ = some (.int .i64 (kk : Int))) := by show _ = _; rw [cell_of_row W ck 0 _ _ (0, 0) hk]; rfl
  have HPC : Hid (W.cell? ⟨cp, 0, none⟩ = some (.int .i64 (n : Int))) := by show _ = _; rw [cell_of_row W cp 0 _ _ (0, 0) hp]; rfl
  have c0 := HA.out.c2
  have c1 := HA.out.row
  have HG0 := Lib.hid hg
  clear ha hra hx hxl hxq RA hf hrow hL1 h0 hk hp hg hn2 hn
  go_enter Try.func58, Try.ntmps58
  go_wp2_with fail
  clear c0 c1
  go_loopw [18] (fun iv wr => ∃ j : Nat, j ≤ n ∧ iv = .int .i64 (j : Int) ∧ Hid (wr.heap[g]? = some (.cells (nrow (f j) n) 22)) ∧ Hid (W.grownBy wr (some g))) (fun iv _ => n - (intOf iv).toNat)
  case atStart => exact ⟨0, Nat.zero_le _, rfl, HG0.out, World.grownBy.refl _ _⟩
  case round =>
    obtain ⟨j, hj, rfl, HG, HR⟩ := hrel
    obtain ⟨wo, rfl⟩ : ∃ x, x = wr := ⟨_, rfl⟩
    by_cases hlt : j < n
    · obtain ⟨v, hv⟩ : ∃ v, x[j]? = some v := ⟨x[j]'(by rw [HXL.out]; exact hlt), List.getElem?_eq_getElem _⟩
      obtain ⟨xb, xo, rfl, hxb, hxc⟩ := HA.out.cell j v hv
      have hvq := HXQ.out j v hv
      have hgx : cf x j = (v : Int) := by unfold cf; rw [List.getD_eq_getElem?_getD, hv]; rfl
      have c2 := HR.out.cell (a := ⟨xb, xo + j, none⟩) hxc (by simp; omega)
      have c3 := HR.out.cell (a := ⟨ck, 0, none⟩) HKC.out (by simp; omega)
      have c4 := HR.out.cell (a := ⟨cp, 0, none⟩) HPC.out (by simp; omega)
      obtain ⟨m, hm⟩ : ∃ m, m = j * kk := ⟨_, rfl⟩
      obtain ⟨at0, hat⟩ : ∃ a, a = m % n2 := ⟨_, rfl⟩
      have hmb : m ≤ 4096 := by rw [hm]; exact Nat.mul_le_mul (show j ≤ 64 by omega) (show kk ≤ 64 by omega)
      have hat2 : at0 < n2 := by rw [hat]; exact Nat.mod_lt _ (by omega)
      have hatd : j * kk % (2 * n) = at0 := by rw [hat, hm, HN2.out]
      have e1 : (j : Int) * (kk : Int) = (m : Int) := by rw [hm]; simp
      have e2 : (m : Int) % (n2 : Int) = (at0 : Int) := by rw [hat]; simp
      have e3 : (m : Int).tmod (n2 : Int) = (at0 : Int) := by rw [hat]; rfl
      have j1 : (j : Int) < (n : Int) := by omega
      have j2 : (0 : Int) ≤ (j : Int) := by omega
      by_cases hc : at0 < n
      · have hpos : posA n kk j = at0 := by unfold posA; rw [hatd, if_pos hc]
        have HS := Lib.hid (HSTEP.out j v hlt (by rw [hatd, if_pos hc, Int.one_mul, hgx, resN_nat q v hvq]))
        rw [hpos] at HS
        have hgs : nrow (f j) n = (nrow (f j) n) := rfl
        have d0 : wo.cell? ⟨g, at0, none⟩ = some (.int .u32 (f j at0 : Int)) := by rw [cell_of_row wo g at0 _ _ (0, 0) HG.out]; exact nrow_get _ _ _ hc
        have d1 : wo.frozen? ⟨g, at0, none⟩ = false := by simp [World.frozen?, HG.out]
        have HG2 : Hid ((wo.setCell ⟨g, at0, none⟩ (.int .u32 (v : Int))).heap[g]? = some (.cells (nrow (f (j + 1)) n) 22)) := by
          show _ = _
          rw [← HS.out]; simp [World.setCell, Array.getElem?_modify, HG.out]
        have HR2 : Hid (W.grownBy (wo.setCell ⟨g, at0, none⟩ (.int .u32 (v : Int))) (some g)) := grown_set HR.out _ _
        have j3 : ¬ (n : Int) ≤ (at0 : Int) := by omega
        have j4 : (at0 : Int) < (n : Int) := by omega
        have j5 : (0 : Int) ≤ (at0 : Int) := by omega
        clear hv hxc hgx hm hat hatd hpos hgs HS
        go_upto_region 7 with (fail)
        generalize wo.setCell ⟨g, at0, none⟩ (.int .u32 (v : Int)) = wn at HG2 HR2 ⊢
        clear c2 c3 c4 d0 d1 e1 e2 e3
        go_wp2_with fail
        go_roundw
        case rel => exact ⟨j + 1, by omega, by go_num, HG2.out, HR2.out⟩
        case measure => simp [intOf]; omega
      · obtain ⟨a1, ha1⟩ : ∃ a, a = at0 - n := ⟨_, rfl⟩
        have ha1n : a1 < n := by omega
        have hpos : posA n kk j = a1 := by unfold posA; rw [hatd, if_neg hc, ha1]
        obtain ⟨s, hs⟩ : ∃ s, s = q - v := ⟨_, rfl⟩
        obtain ⟨t, ht⟩ : ∃ t, t = s % q := ⟨_, rfl⟩
        have htq : t < q := by rw [ht]; exact Nat.mod_lt _ (by omega)
        have HS := Lib.hid (HSTEP.out j t hlt (by rw [hatd, if_neg hc, hgx, ht, hs, neg_res hq0 hvq]; simp))
        rw [hpos] at HS
        have e4 : (q : Int) - (v : Int) = (s : Int) := by omega
        have e5 : (s : Int) % (q : Int) = (t : Int) := by rw [ht]; simp
        have e6 : (s : Int).tmod (q : Int) = (t : Int) := by rw [ht]; rfl
        have e7 : (at0 : Int) - (n : Int) = (a1 : Int) := by omega
        have e8 : IntKind.i64.wrap (a1 : Int) = (a1 : Int) := IntWalk.i64_in _ (by omega)
        have e9 : IntKind.u64.wrap (v : Int) = (v : Int) := by rw [IntKind.wrap_u64]; omega
        have e10 : IntKind.u64.wrap (s : Int) = (s : Int) := by rw [IntKind.wrap_u64]; omega
        have e11 : IntKind.u32.wrap (t : Int) = (t : Int) := by rw [IntKind.wrap_u32]; omega
        have j3 : (n : Int) ≤ (at0 : Int) := by omega
        have j4 : (a1 : Int) < (n : Int) := by omega
        have j5 : (0 : Int) ≤ (a1 : Int) := by omega
        clear hv hxc hgx hm hat hatd hpos hs ht ha1
        go_upto_region 5 with (fail)
        go_quiet (fail)
        have d0 : wo.cell? ⟨g, a1, none⟩ = some (.int .u32 (f j a1 : Int)) := by rw [cell_of_row wo g a1 _ _ (0, 0) HG.out]; exact nrow_get _ _ _ ha1n
        have d1 : wo.frozen? ⟨g, a1, none⟩ = false := by simp [World.frozen?, HG.out]
        go_upto_region 7 with (fail)
        have HG2 : Hid (((wo.setCell ⟨g, a1, none⟩ (.int .u32 (t : Int))).drewN nq).heap[g]? = some (.cells (nrow (f (j + 1)) n) 22)) := by
          show (wo.setCell ⟨g, a1, none⟩ (.int .u32 (t : Int))).heap[g]? = _
          rw [← HS.out]; simp [World.setCell, Array.getElem?_modify, HG.out]
        have HR2 : Hid (W.grownBy ((wo.setCell ⟨g, a1, none⟩ (.int .u32 (t : Int))).drewN nq) (some g)) := grown_drewN (grown_set HR.out _ _) _
        generalize (wo.setCell ⟨g, a1, none⟩ (.int .u32 (t : Int))).drewN nq = wn at HG2 HR2 ⊢
        clear c2 c3 c4 d0 d1 e1 e2 e3 e4 e5 e6 e7 e8 e9 e10 e11
        go_wp2_with fail
        go_roundw
        case rel => exact ⟨j + 1, by omega, by go_num, HG2.out, HR2.out⟩
        case measure => simp [intOf]; omega
    · obtain rfl : j = n := by omega
      go_wp2
      go_end0
      exact ⟨rfl, HG.out, HR.out⟩
end Go.Proofs.Ytkjlfjnncdkmlaa.G

/- Plain: the greatest absolute value of products, sums and automorphisms. -/

/- Plain: the laws of the ring, element by element. -/
namespace Go.Proofs.Ytkjlfjnncdkmlaa.G
set_option linter.all false
theorem zip_ext {f g : Nat → List Nat → List Nat → List Nat} {ml : List Nat} {xs ys us vs : List (List Nat)} {L : Nat} (h : ∀ i, i < L → f (ml.getD i 0) (xs.getD i []) (ys.getD i []) = g (ml.getD i 0) (us.getD i []) (vs.getD i [])) : zipRows f ml xs ys L = zipRows g ml us vs L := by
  unfold zipRows
  exact List.map_congr_left fun i hi => h i (List.mem_range.1 hi)
def autR (n k : Nat) (q : Nat) (a _b : List Nat) : List Nat := autRow n q k a
section
variable {n : Nat} {ml : List Nat} (hq : ∀ q ∈ ml, 0 < q)
include hq
end
theorem autR_ok (n k q : Nat) (hq : 0 < q) (a b : List Nat) : (autR n k q a b).length = n ∧ ∀ x ∈ autR n k q a b, x < q := mapZ_ok hq _
def resRows (la lv : Nat) (s : Bool) (xs : List (List Nat)) : List (List Nat) := xs.take lv ++ (if s then [xs.getD la []] else [])
theorem take_getD {α : Type} (l : List α) (k i : Nat) (d : α) (h : i < k) : (l.take k).getD i d = l.getD i d := by
  rw [List.getD_eq_getElem?_getD, List.getD_eq_getElem?_getD, List.getElem?_take, if_pos h]
theorem app_getD {α : Type} (l m : List α) (i : Nat) (d : α) (h : i < l.length) : (l ++ m).getD i d = l.getD i d := by
  rw [List.getD_eq_getElem?_getD, List.getD_eq_getElem?_getD, List.getElem?_append_left h]
theorem app_last {α : Type} (l : List α) (x : α) (i : Nat) (d : α) (h : l.length = i) : (l ++ [x]).getD i d = x := by
  rw [List.getD_eq_getElem?_getD, List.getElem?_append_right (by omega), h, Nat.sub_self]; rfl
end Go.Proofs.Ytkjlfjnncdkmlaa.G

/- Walks: multiples, automorphisms and restrictions of elements (the program's). -/
namespace Go.Proofs.Ytkjlfjnncdkmlaa.G
set_option linter.all false
open Go.RowKit Go.Shelf Go.BigFrame
def mulR (m : Int) (n q : Nat) (a _b : List Nat) : List Nat := sumRow m n q [] a
def autB (N : Int) (k : Int) : Bool := decide (1 ≤ k) && decide (k < 2 * N) && decide (k % 2 = 1)
def resB2 (la : Int) (sa : Bool) (level : Int) (special : Bool) : Bool := decide (1 ≤ level) && decide (level ≤ la) && (!special || sa)
theorem res_fin (chain : List Nat) (sp la lv : Nat) (sa s : Bool) (h1 : lv ≤ la) (h2 : la ≤ chain.length) (hs : s = true → sa = true) (xs : List (List Nat)) (hx : xs.length = (modl chain sp la sa).length) :
    (List.finRange (modl chain sp lv s).length).map (fun x => xs.getD (if x.val = lv then la else x.val) []) = resRows la lv s xs := by
  have hml : (modl chain sp la sa).length = la + (if sa then 1 else 0) := modl_length _ _ _ _ h2
  have hmv : (modl chain sp lv s).length = lv + (if s then 1 else 0) := modl_length _ _ _ _ (by omega)
  have hr : (resRows la lv s xs).length = lv + (if s then 1 else 0) := by
    unfold resRows; rw [List.length_append, List.length_take]; cases s <;> simp <;> omega
  apply List.ext_getElem
  · rw [List.length_map, List.length_finRange, hmv, hr]
  · intro i h3 h4
    rw [hr] at h4
    have hg : (resRows la lv s xs)[i]'(by rw [hr]; exact h4) = (resRows la lv s xs).getD i [] := by rw [List.getD_eq_getElem?_getD, List.getElem?_eq_getElem]; rfl
    rw [hg]
    simp only [List.getElem_map, List.getElem_finRange]
    show xs.getD (if i = lv then la else i) [] = _
    unfold resRows
    by_cases hi : i < lv
    · rw [if_neg (by omega), app_getD _ _ _ _ (by rw [List.length_take]; omega), take_getD _ _ _ _ hi]
    · cases s with
      | false => simp at h4; omega
      | true =>
        simp only [if_true] at h4 ⊢
        rw [if_pos (by omega), app_last _ _ _ _ (by rw [List.length_take]; omega)]
set_option maxRecDepth 100000 in
set_option maxHeartbeats 40000000 in
theorem mulint_any (N pr pw wt er : Int) (cv : Value) (chain : List Nat) (sp : Nat) (la : Int) (sa : Bool) (av : Value) (xs : List (List Nat)) (m : Int) (hm1 : -9223372036854775808 ≤ m) (hm2 : m ≤ 9223372036854775807) (w : World) (hr : w.reads w.heap.size cv (chain.map u32V)) (ha : w.rows u32V w.heap.size av xs) :
    Calls Try.prog 24 #[.agg #[.int .i64 N, .int .u32 pr, .int .i64 pw, cv, .int .u32 (sp : Int), .int .i64 wt, .int .u32 er], .agg #[.int .i64 la, .bool sa, av], .int .i64 m] w (EltPost (checkB N chain sp la sa xs) la sa (zipRows (mulR m N.toNat) (modl chain sp la.toNat sa) xs xs (modl chain sp la.toNat sa).length) w) := by
  obtain ⟨r, hrr⟩ : ∃ r, r = (checkB N chain sp la sa xs) := ⟨_, rfl⟩
  rw [← hrr]
  obtain ⟨mr, hmr⟩ : ∃ mr, mr = zipRows (mulR m N.toNat) (modl chain sp la.toNat sa) xs xs (modl chain sp la.toNat sa).length := ⟨_, rfl⟩
  rw [← hmr]
  obtain ⟨a, cap, rfl, hcap, hmx, -⟩ := reads_u32 hr
  obtain ⟨aa, ac, rfl, hac, ham, has⟩ := ha.shape
  obtain ⟨W0, hW0⟩ : ∃ W0, W0 = (((w.alloc (.cells #[.int .i64 N, .int .u32 pr, .int .i64 pw, .slice a chain.length cap, .int .u32 (sp : Int), .int .i64 wt, .int .u32 er] 25)).alloc (.cells #[.int .i64 la, .bool sa, .slice aa xs.length ac] 28)).alloc (.cells #[.int .i64 m] 2)).alloc (.cells #[.int .i64 0, .bool false, .slice none 0 0] 28) := ⟨_, rfl⟩
  have hB0 : Below w.heap.size w W0 := by rw [hW0]; exact ((((Below.refl _ w).alloc (Nat.le_refl _) _).alloc (by simp) _).alloc (by first | (simp; done) | (simp; omega)) _).alloc (by first | (simp; done) | (simp; omega)) _
  have g0 : W0.heap[w.heap.size]? = some (.cells #[.int .i64 N, .int .u32 pr, .int .i64 pw, .slice a chain.length cap, .int .u32 (sp : Int), .int .i64 wt, .int .u32 er] 25) := by rw [hW0, Below.heap_alloc _ _ _ (by first | (simp; done) | (simp; omega)), Below.heap_alloc _ _ _ (by first | (simp; done) | (simp; omega)), Below.heap_alloc _ _ _ (by simp)]; exact alloc_last _ _ rfl
  have e0 : W0.heap[w.heap.size + 1]? = some (.cells #[.int .i64 la, .bool sa, .slice aa xs.length ac] 28) := by rw [hW0, Below.heap_alloc _ _ _ (by first | (simp; done) | (simp; omega)), Below.heap_alloc _ _ _ (by simp)]; exact alloc_last _ _ (by simp)
  have e1 : W0.heap[w.heap.size + 1 + 1]? = some (.cells #[.int .i64 m] 2) := by rw [hW0, Below.heap_alloc _ _ _ (by simp)]; exact alloc_last _ _ (by simp)
  have e2 : W0.heap[w.heap.size + 1 + 1 + 1]? = some (.cells #[.int .i64 0, .bool false, .slice none 0 0] 28) := by rw [hW0]; exact alloc_last _ _ (by simp)
  have hz0 := lt_of_heap e2
  have HR0 := Lib.hid ((hr.below hB0).mono hB0.size)
  have HA0 := Lib.hid ((ha.below hB0).mono hB0.size)
  have HT := Lib.hid (checkE N pr pw wt er _ chain sp la sa _ xs W0 HR0.out HA0.out)
  unfold ErrPost errI at HT
  obtain ⟨ck, hck⟩ : ∃ c, c = checkB N chain sp la sa xs := ⟨_, rfl⟩
  rw [← hck] at HT hrr
  obtain ⟨c0, c1, c2, c3, c4, c5, c6⟩ := par_cells g0
  obtain ⟨k0, k1, k2, -, -, -⟩ := elem_cells e0
  have j0 : W0.cell? ⟨w.heap.size + 1 + 1, 0, none⟩ = some (.int .i64 m) := by rw [cell_of_row W0 _ 0 _ _ (0, 0) e1]; rfl
  have HG0 := Lib.hid g0
  have HE0 := Lib.hid e0
  have HE1 := Lib.hid e1
  have HE2 := Lib.hid e2
  have HW0 := Lib.hid hW0
  have HRR := Lib.hid hrr
  have HMR := Lib.hid hmr
  have HCK := Lib.hid hck
  have HNO : Hid (∀ w' : World, Below w.heap.size w w' → EltPost false la sa mr w (.returned (.tuple #[.agg #[.int .i64 0, .bool false, .slice none 0 0], .int .i64 2])) w') := fun w' h => EltPost.no_ h
  clear hr ha g0 e0 e1 e2 hW0 hrr hmr has hck
  cases ck with
  | false =>
    obtain rfl : r = false := by rw [HRR.out]; try rfl
    go_enter Try.func24, Try.ntmps24
    go_upto_region 1 with (fail)
    rw [← HW0.out]
    go_wp2_with fail
    refine HT.out.mono ?_
    rintro e w1 ⟨rfl, hb1⟩
    have he1 := (hb1.block _ hz0).trans HE2.out
    obtain ⟨q0, q1, q2, f0, f1, f2⟩ := elem_cells he1
    have hBw := hB0.trans (hb1.mono hB0.size)
    clear he1
    go_wp2
    refine bodyPost_ret (v := .tuple #[.agg #[.int .i64 0, .bool false, .slice none 0 0], .int .i64 2]) ?_ rfl (HNO.out _ ?_)
    · simp [results, Try.results24, go_sem, q0, q1, q2]
    · exact ((hBw.setCell (by simp; omega) _).setCell (by simp; omega) _).setCell (by simp; omega) _
  | true =>
  obtain ⟨n, lv, rfl, rfl, i1, i2, i3, i4, i5, i6, i7⟩ := checkB_elt HCK.out.symm
  obtain rfl : r = true := by rw [HRR.out]; try rfl
  have HMR2 : Hid (mr = zipRows (mulR m n) (modl chain sp lv sa) xs xs (modl chain sp lv sa).length) := by show _ = _; rw [HMR.out]; simp only [Int.toNat_natCast]
  have HSUM : Hid (∀ W, Below W0.heap.size W0 W → Calls Try.prog 46 #[.pointer (some ⟨w.heap.size, 0, none⟩), .int .i64 (lv : Int), .bool sa, .func (.func 61) #[] #[.pointer (some ⟨w.heap.size + 1 + 1, 0, none⟩), .pointer (some ⟨w.heap.size + 1, 0, none⟩)]] W (MadeElt (lv : Int) sa mr W)) := fun W hb => by
    rw [HMR2.out]
    have hm : ∀ x, modAt (modl chain sp lv sa) x ∈ modl chain sp lv sa := fun x => List.getElem_mem _
    have hml := modl_length chain sp lv sa i4
    refine each_zip n lv pr pw wt er _ chain sp sa xs xs w.heap.size W (mulR m n) _ _ ((HR0.out.below hb).mono (Below.size hb)) (hold_heap HG0.out hb) i3 i4 i5 i2 i6 (fun q hq a b => (sumRow_ok m n q (by have := i6 q hq; omega) [] a).1) ?_ (enters_of Try.func61 (by kernel_rfl) rfl)
    intro x g W' hB hg hz
    obtain ⟨a1, a2, a3⟩ := fin_elt i7 x
    have hx := x.isLt
    obtain ⟨m1, m2⟩ := i6 _ (hm x)
    have hx2 : x.val ≤ 1000 := by split at hml <;> omega
    exact mulint1_any x.val (modAt (modl chain sp lv sa) x) n g (w.heap.size + 1 + 1) (w.heap.size + 1) W.heap.size m _ _ _ xs _ [] W' m1 m2 (by omega) hx2 hm1 hm2 (hold_heap (hold_heap HE1.out hb) hB) (hold_heap (hold_heap HE0.out hb) hB) (((HA0.out.below hb).mono (Below.size hb)).below hB) a1 a2 a3 (fun j => by simp) (Nat.lt_of_lt_of_le (lt_of_heap HE1.out) (Below.size hb)) (Nat.lt_of_lt_of_le (lt_of_heap HE0.out) (Below.size hb)) hg hz
  unfold MadeElt at HSUM
  clear i7 HMR HRR HCK
  go_enter Try.func24, Try.ntmps24
  go_upto_region 1 with (fail)
  rw [← HW0.out]
  go_wp2_with fail
  refine HT.out.mono ?_
  rintro e w1 ⟨rfl, hb1⟩
  have hg1 := (hb1.block w.heap.size (by omega)).trans HG0.out
  have he1 := (hb1.block (w.heap.size + 1) (by omega)).trans HE0.out
  have hf1 := (hb1.block (w.heap.size + 1 + 1) (by omega)).trans HE1.out
  have hs1 := hb1.size
  have HS1 := HSUM.out w1 hb1
  clear c0 c1 c2 c3 c4 c5 c6 k0 k1 k2 j0
  obtain ⟨c0, c1, c2, c3, c4, c5, c6⟩ := par_cells hg1
  obtain ⟨k0, k1, k2, -, -, -⟩ := elem_cells he1
  have j0 : w1.cell? ⟨w.heap.size + 1 + 1, 0, none⟩ = some (.int .i64 m) := by rw [cell_of_row w1 _ 0 _ _ (0, 0) hf1]; rfl
  clear hg1 he1 hf1
  go_wp2_with fail
  refine HS1.mono ?_
  rintro e w2 ⟨⟨rv, rfl, hrv⟩, hb2⟩
  have hB2 := hb1.trans (hb2.mono hs1)
  have he2 := (hB2.block _ hz0).trans HE2.out
  obtain ⟨q0, q1, q2, f0, f1, f2⟩ := elem_cells he2
  obtain ⟨ra, rc, rfl⟩ := hrv.open_
  have HRV := Lib.hid hrv
  have HE2' := Lib.hid he2
  have hBw := hB0.trans (hB2.mono hB0.size)
  have hlz := lt_of_heap he2
  clear c0 c1 c2 c3 c4 c5 c6 k0 k1 k2 j0 HS1 he2 hrv
  go_wp2
  obtain ⟨W6, hW6⟩ : ∃ W6, W6 = ((w2.setCell ⟨w.heap.size + 1 + 1 + 1, 0, none⟩ (.int .i64 (lv : Int))).setCell ⟨w.heap.size + 1 + 1 + 1, 1, none⟩ (.bool sa)).setCell ⟨w.heap.size + 1 + 1 + 1, 2, none⟩ (.slice ra mr.length rc) := ⟨_, rfl⟩
  obtain ⟨h6, -, hB6⟩ := elem_store HE2'.out hW6
  have hr6 : W6.rowsO u32V w1.heap.size 23 22 (.slice ra mr.length rc) mr := by
    rw [hW6]; exact ((HRV.out.setCell (by simp; omega) _).setCell (by simp; omega) _).setCell (by simp; omega) _
  obtain ⟨x0, x1, x2, -, -, -⟩ := elem_cells h6
  rw [← hW6]
  refine bodyPost_ret (v := .tuple #[.agg #[.int .i64 (lv : Int), .bool sa, .slice ra mr.length rc], .int .i64 0]) ?_ rfl (EltPost.ok_ (hr6.mono (by omega)) (hB6 _ _ hBw (by omega)))
  simp [results, Try.results24, go_sem, x0, x1, x2]
end Go.Proofs.Ytkjlfjnncdkmlaa.G

/- Walks: the reference's difference of elements; the program's negative. -/
namespace Go.Proofs.Ytkjlfjnncdkmlaa.G
set_option linter.all false
open Go.RowKit Go.Shelf Go.BigFrame
set_option maxRecDepth 100000 in
set_option maxHeartbeats 8000000 in
theorem neg_any (N pr pw wt er : Int) (cv : Value) (chain : List Nat) (sp : Nat) (la : Int) (sa : Bool) (av : Value) (xs : List (List Nat)) (w : World) (hr : w.reads w.heap.size cv (chain.map u32V)) (ha : w.rows u32V w.heap.size av xs) :
    Calls Try.prog 23 #[.agg #[.int .i64 N, .int .u32 pr, .int .i64 pw, cv, .int .u32 (sp : Int), .int .i64 wt, .int .u32 er], .agg #[.int .i64 la, .bool sa, av]] w (EltPost (checkB N chain sp la sa xs) la sa (zipRows (mulR (-1) N.toNat) (modl chain sp la.toNat sa) xs xs (modl chain sp la.toNat sa).length) w) := by
  obtain ⟨W0, hW0⟩ : ∃ W0, W0 = ((w.alloc (.cells #[.int .i64 N, .int .u32 pr, .int .i64 pw, cv, .int .u32 (sp : Int), .int .i64 wt, .int .u32 er] 25)).alloc (.cells #[.int .i64 la, .bool sa, av] 28)).alloc (.cells #[.int .i64 0, .bool false, .slice none 0 0] 28) := ⟨_, rfl⟩
  have hB0 : Below w.heap.size w W0 := by rw [hW0]; exact (((Below.refl _ w).alloc (Nat.le_refl _) _).alloc (by simp) _).alloc (by first | (simp; done) | (simp; omega)) _
  have g0 : W0.heap[w.heap.size]? = some (.cells #[.int .i64 N, .int .u32 pr, .int .i64 pw, cv, .int .u32 (sp : Int), .int .i64 wt, .int .u32 er] 25) := by rw [hW0, Below.heap_alloc _ _ _ (by first | (simp; done) | (simp; omega)), Below.heap_alloc _ _ _ (by simp)]; exact alloc_last _ _ rfl
  have e0 : W0.heap[w.heap.size + 1]? = some (.cells #[.int .i64 la, .bool sa, av] 28) := by rw [hW0, Below.heap_alloc _ _ _ (by simp)]; exact alloc_last _ _ (by simp)
  have e2 : W0.heap[w.heap.size + 1 + 1]? = some (.cells #[.int .i64 0, .bool false, .slice none 0 0] 28) := by rw [hW0]; exact alloc_last _ _ (by simp)
  have hz0 := lt_of_heap e2
  have HR0 := Lib.hid ((hr.below hB0).mono hB0.size)
  have HA0 := Lib.hid ((ha.below hB0).mono hB0.size)
  have HM := Lib.hid (mulint_any N pr pw wt er cv chain sp la sa av xs (-1) (by decide) (by decide) W0 HR0.out HA0.out)
  obtain ⟨ok, hok⟩ : ∃ ok, ok = checkB N chain sp la sa xs := ⟨_, rfl⟩
  obtain ⟨mr, hmr⟩ : ∃ mr, mr = zipRows (mulR (-1) N.toNat) (modl chain sp la.toNat sa) xs xs (modl chain sp la.toNat sa).length := ⟨_, rfl⟩
  rw [← hok, ← hmr] at HM
  rw [← hok, ← hmr]
  unfold EltPost at HM
  obtain ⟨HPOST, hpost⟩ : ∃ R, R = EltPost ok la sa mr w := ⟨_, rfl⟩
  rw [← hpost]
  have HP := Lib.hid hpost
  obtain ⟨c0, c1, c2, c3, c4, c5, c6⟩ := par_cells g0
  obtain ⟨k0, k1, k2, -, -, -⟩ := elem_cells e0
  have HE2 := Lib.hid e2
  have HW0 := Lib.hid hW0
  have HB0 := Lib.hid hB0
  clear hr ha g0 e0 e2 hW0 hB0 hok hmr hpost
  go_enter Try.func23, Try.ntmps23
  go_upto_region 1 with (fail)
  rw [← HW0.out]
  go_wp2_with fail
  refine HM.out.mono ?_
  rintro e w1 ⟨he, hb1⟩
  have HE := Lib.hid ((hb1.block _ hz0).trans HE2.out)
  obtain ⟨q0, q1, q2, f0, f1, f2⟩ := elem_cells HE.out
  have HBW := Lib.hid (below_via HB0.out hb1)
  have hlz := lt_of_heap HE.out
  clear c0 c1 c2 c3 c4 c5 c6 k0 k1 k2 hz0
  have hs1 := hb1.size
  cases ok with
  | false =>
    rw [if_neg (by decide)] at he
    subst he
    clear hb1
    go_wp2
    rw [HP.out]
    refine bodyPost_ret (v := .tuple #[.agg #[.int .i64 0, .bool false, .slice none 0 0], .int .i64 2]) ?_ rfl (EltPost.no_ ?_)
    · simp [results, Try.results23, go_sem, q0, q1, q2]
    · exact ((HBW.out.setCell (by simp; omega) _).setCell (by simp; omega) _).setCell (by simp; omega) _
  | true =>
    rw [if_pos rfl] at he
    obtain ⟨rv, rfl, hrv⟩ := he
    obtain ⟨ra, rc, rfl⟩ := hrv.open_
    have HRV := Lib.hid hrv
    have hsz := HB0.out.size
    clear hrv hb1
    go_wp2
    obtain ⟨W6, hW6⟩ : ∃ W6, W6 = ((w1.setCell ⟨w.heap.size + 1 + 1, 0, none⟩ (.int .i64 la)).setCell ⟨w.heap.size + 1 + 1, 1, none⟩ (.bool sa)).setCell ⟨w.heap.size + 1 + 1, 2, none⟩ (.slice ra mr.length rc) := ⟨_, rfl⟩
    obtain ⟨h6, -, hB6⟩ := elem_store HE.out hW6
    have hz9 := lt_of_heap HE2.out
    have hr6 : W6.rowsO u32V W0.heap.size 23 22 (.slice ra mr.length rc) mr := by
      rw [hW6]; exact ((HRV.out.setCell (by simp; omega) _).setCell (by simp; omega) _).setCell (by simp; omega) _
    obtain ⟨x0, x1, x2, -, -, -⟩ := elem_cells h6
    rw [← hW6, HP.out]
    refine bodyPost_ret (v := .tuple #[.agg #[.int .i64 la, .bool sa, .slice ra mr.length rc], .int .i64 0]) ?_ rfl (EltPost.ok_ (hr6.mono hsz) (hB6 _ _ HBW.out (by omega)))
    simp [results, Try.results23, go_sem, x0, x1, x2]
end Go.Proofs.Ytkjlfjnncdkmlaa.G

/- Walks: automorphisms (the program's). -/
namespace Go.Proofs.Ytkjlfjnncdkmlaa.G
set_option linter.all false
open Go.RowKit Go.Shelf Go.BigFrame
theorem checkB_size {n : Nat} {chain : List Nat} {sp : Nat} {la : Int} {sa : Bool} {xs : List (List Nat)} (h : checkB (n : Int) chain sp la sa xs = true) : SizeN n := by
  unfold checkB preB validB sizeB at h
  simp only [Bool.and_eq_true, Bool.or_eq_true, beq_iff_eq] at h
  unfold SizeN
  omega
set_option maxRecDepth 100000 in
set_option maxHeartbeats 40000000 in
theorem auto_any (N pr pw wt er : Int) (cv : Value) (chain : List Nat) (sp : Nat) (la : Int) (sa : Bool) (av : Value) (xs : List (List Nat)) (k : Int) (hk0 : -9223372036854775808 ≤ k ∧ k ≤ 9223372036854775807) (w : World) (hr : w.reads w.heap.size cv (chain.map u32V)) (ha : w.rows u32V w.heap.size av xs) :
    Calls Try.prog 20 #[.agg #[.int .i64 N, .int .u32 pr, .int .i64 pw, cv, .int .u32 (sp : Int), .int .i64 wt, .int .u32 er], .agg #[.int .i64 la, .bool sa, av], .int .i64 k] w (EltPost (checkB N chain sp la sa xs && autB N k) la sa (zipRows (autR N.toNat k.toNat) (modl chain sp la.toNat sa) xs xs (modl chain sp la.toNat sa).length) w) := by
  obtain ⟨r, hrr⟩ : ∃ r, r = (checkB N chain sp la sa xs && autB N k) := ⟨_, rfl⟩
  rw [← hrr]
  obtain ⟨mr, hmr⟩ : ∃ mr, mr = zipRows (autR N.toNat k.toNat) (modl chain sp la.toNat sa) xs xs (modl chain sp la.toNat sa).length := ⟨_, rfl⟩
  rw [← hmr]
  obtain ⟨a, cap, rfl, hcap, hmx, -⟩ := reads_u32 hr
  obtain ⟨aa, ac, rfl, hac, ham, has⟩ := ha.shape
  obtain ⟨W0, hW0⟩ : ∃ W0, W0 = (((w.alloc (.cells #[.int .i64 N, .int .u32 pr, .int .i64 pw, .slice a chain.length cap, .int .u32 (sp : Int), .int .i64 wt, .int .u32 er] 25)).alloc (.cells #[.int .i64 la, .bool sa, .slice aa xs.length ac] 28)).alloc (.cells #[.int .i64 k] 3)).alloc (.cells #[.int .i64 0, .bool false, .slice none 0 0] 28) := ⟨_, rfl⟩
  have hB0 : Below w.heap.size w W0 := by rw [hW0]; exact ((((Below.refl _ w).alloc (Nat.le_refl _) _).alloc (by simp) _).alloc (by first | (simp; done) | (simp; omega)) _).alloc (by first | (simp; done) | (simp; omega)) _
  have g0 : W0.heap[w.heap.size]? = some (.cells #[.int .i64 N, .int .u32 pr, .int .i64 pw, .slice a chain.length cap, .int .u32 (sp : Int), .int .i64 wt, .int .u32 er] 25) := by rw [hW0, Below.heap_alloc _ _ _ (by first | (simp; done) | (simp; omega)), Below.heap_alloc _ _ _ (by first | (simp; done) | (simp; omega)), Below.heap_alloc _ _ _ (by simp)]; exact alloc_last _ _ rfl
  have e0 : W0.heap[w.heap.size + 1]? = some (.cells #[.int .i64 la, .bool sa, .slice aa xs.length ac] 28) := by rw [hW0, Below.heap_alloc _ _ _ (by first | (simp; done) | (simp; omega)), Below.heap_alloc _ _ _ (by simp)]; exact alloc_last _ _ (by simp)
  have e1 : W0.heap[w.heap.size + 1 + 1]? = some (.cells #[.int .i64 k] 3) := by rw [hW0, Below.heap_alloc _ _ _ (by simp)]; exact alloc_last _ _ (by simp)
  have e2 : W0.heap[w.heap.size + 1 + 1 + 1]? = some (.cells #[.int .i64 0, .bool false, .slice none 0 0] 28) := by rw [hW0]; exact alloc_last _ _ (by simp)
  have hz0 := lt_of_heap e2
  have HR0 := Lib.hid ((hr.below hB0).mono hB0.size)
  have HA0 := Lib.hid ((ha.below hB0).mono hB0.size)
  have HT := Lib.hid (checkE N pr pw wt er _ chain sp la sa _ xs W0 HR0.out HA0.out)
  unfold ErrPost errI at HT
  obtain ⟨ck, hck⟩ : ∃ c, c = checkB N chain sp la sa xs := ⟨_, rfl⟩
  rw [← hck] at HT hrr
  obtain ⟨c0, c1, c2, c3, c4, c5, c6⟩ := par_cells g0
  obtain ⟨k0, k1, k2, -, -, -⟩ := elem_cells e0
  have j0 : W0.cell? ⟨w.heap.size + 1 + 1, 0, none⟩ = some (.int .i64 k) := by rw [cell_of_row W0 _ 0 _ _ (0, 0) e1]; rfl
  have HG0 := Lib.hid g0
  have HE0 := Lib.hid e0
  have HE1 := Lib.hid e1
  have HE2 := Lib.hid e2
  have HW0 := Lib.hid hW0
  have HRR := Lib.hid hrr
  have HMR := Lib.hid hmr
  have HCK := Lib.hid hck
  have HNO : Hid (∀ w' : World, Below w.heap.size w w' → EltPost false la sa mr w (.returned (.tuple #[.agg #[.int .i64 0, .bool false, .slice none 0 0], .int .i64 2])) w') := fun w' h => EltPost.no_ h
  clear hr ha g0 e0 e1 e2 hW0 hrr hmr has hck
  cases ck with
  | false =>
    obtain rfl : r = false := by rw [HRR.out]; try rfl
    go_enter Try.func20, Try.ntmps20
    go_upto_region 1 with (fail)
    rw [← HW0.out]
    go_wp2_with fail
    refine HT.out.mono ?_
    rintro e w1 ⟨rfl, hb1⟩
    have he1 := (hb1.block _ hz0).trans HE2.out
    obtain ⟨q0, q1, q2, f0, f1, f2⟩ := elem_cells he1
    have hBw := hB0.trans (hb1.mono hB0.size)
    clear he1
    go_wp2
    refine bodyPost_ret (v := .tuple #[.agg #[.int .i64 0, .bool false, .slice none 0 0], .int .i64 2]) ?_ rfl (HNO.out _ ?_)
    · simp [results, Try.results20, go_sem, q0, q1, q2]
    · exact ((hBw.setCell (by simp; omega) _).setCell (by simp; omega) _).setCell (by simp; omega) _
  | true =>
  obtain ⟨n, lv, rfl, rfl, i1, i2, i3, i4, i5, i6, i7⟩ := checkB_elt HCK.out.symm
  by_cases hk : autB (n : Int) k = true
  case neg =>
    have hkf : autB (n : Int) k = false := by simpa using hk
    have t1 : k < 1 ∨ (¬ k < 1 ∧ 2 * (n : Int) ≤ k) ∨ (¬ k < 1 ∧ ¬ 2 * (n : Int) ≤ k ∧ k % 2 = 0) := by
      unfold autB at hkf
      simp only [Bool.and_eq_false_iff, decide_eq_false_iff_not] at hkf
      omega
    obtain ⟨n2, hn2⟩ : ∃ n2, n2 = 2 * (n : Int) := ⟨_, rfl⟩
    have t3 : 2 * (n : Int) = n2 := hn2.symm
    have t4 : n2 ≤ 64 := by omega
    rcases t1 with t1 | ⟨t1, t2⟩ | ⟨t1, t2, t5⟩
    · clear hk hn2
      obtain rfl : r = false := by rw [HRR.out]; rw [hkf]; rfl
      go_enter Try.func20, Try.ntmps20
      go_upto_region 1 with (fail)
      rw [← HW0.out]
      go_wp2_with fail
      refine HT.out.mono ?_
      rintro e w1 ⟨rfl, hb1⟩
      have he1 := (hb1.block _ hz0).trans HE2.out
      have hg1 := (hb1.block w.heap.size (by omega)).trans HG0.out
      have hh1 := (hb1.block (w.heap.size + 1) (by omega)).trans HE0.out
      have hf1 := (hb1.block (w.heap.size + 1 + 1) (by omega)).trans HE1.out
      clear c0 c1 c2 c3 c4 c5 c6 k0 k1 k2 j0
      obtain ⟨c0, c1, c2, c3, c4, c5, c6⟩ := par_cells hg1
      obtain ⟨k0, k1, k2, -, -, -⟩ := elem_cells hh1
      have j0 : w1.cell? ⟨w.heap.size + 1 + 1, 0, none⟩ = some (.int .i64 k) := by rw [cell_of_row w1 _ 0 _ _ (0, 0) hf1]; rfl
      obtain ⟨q0, q1, q2, f0, f1, f2⟩ := elem_cells he1
      have hBw := hB0.trans (hb1.mono hB0.size)
      clear he1 hg1 hh1 hf1
      go_wp2
      refine bodyPost_ret (v := .tuple #[.agg #[.int .i64 0, .bool false, .slice none 0 0], .int .i64 2]) ?_ rfl (HNO.out _ ?_)
      · simp [results, Try.results20, go_sem, q0, q1, q2]
      · exact ((hBw.setCell (by simp; omega) _).setCell (by simp; omega) _).setCell (by simp; omega) _
    · rw [← hn2] at t2
      clear hk hn2
      obtain rfl : r = false := by rw [HRR.out]; rw [hkf]; rfl
      go_enter Try.func20, Try.ntmps20
      go_upto_region 1 with (fail)
      rw [← HW0.out]
      go_wp2_with fail
      refine HT.out.mono ?_
      rintro e w1 ⟨rfl, hb1⟩
      have he1 := (hb1.block _ hz0).trans HE2.out
      have hg1 := (hb1.block w.heap.size (by omega)).trans HG0.out
      have hh1 := (hb1.block (w.heap.size + 1) (by omega)).trans HE0.out
      have hf1 := (hb1.block (w.heap.size + 1 + 1) (by omega)).trans HE1.out
      clear c0 c1 c2 c3 c4 c5 c6 k0 k1 k2 j0
      obtain ⟨c0, c1, c2, c3, c4, c5, c6⟩ := par_cells hg1
      obtain ⟨k0, k1, k2, -, -, -⟩ := elem_cells hh1
      have j0 : w1.cell? ⟨w.heap.size + 1 + 1, 0, none⟩ = some (.int .i64 k) := by rw [cell_of_row w1 _ 0 _ _ (0, 0) hf1]; rfl
      obtain ⟨q0, q1, q2, f0, f1, f2⟩ := elem_cells he1
      have hBw := hB0.trans (hb1.mono hB0.size)
      clear he1 hg1 hh1 hf1
      go_wp2
      refine bodyPost_ret (v := .tuple #[.agg #[.int .i64 0, .bool false, .slice none 0 0], .int .i64 2]) ?_ rfl (HNO.out _ ?_)
      · simp [results, Try.results20, go_sem, q0, q1, q2]
      · exact ((hBw.setCell (by simp; omega) _).setCell (by simp; omega) _).setCell (by simp; omega) _
    · rw [← hn2] at t2
      have t6 : k.tmod 2 = 0 := by rw [Int.tmod_eq_emod_of_nonneg (by omega)]; exact t5
      have t7 : ((0 : Int) == 0) = true := rfl
      clear hk hn2
      obtain rfl : r = false := by rw [HRR.out]; rw [hkf]; rfl
      go_enter Try.func20, Try.ntmps20
      go_upto_region 1 with (fail)
      rw [← HW0.out]
      go_wp2_with fail
      refine HT.out.mono ?_
      rintro e w1 ⟨rfl, hb1⟩
      have he1 := (hb1.block _ hz0).trans HE2.out
      have hg1 := (hb1.block w.heap.size (by omega)).trans HG0.out
      have hh1 := (hb1.block (w.heap.size + 1) (by omega)).trans HE0.out
      have hf1 := (hb1.block (w.heap.size + 1 + 1) (by omega)).trans HE1.out
      clear c0 c1 c2 c3 c4 c5 c6 k0 k1 k2 j0
      obtain ⟨c0, c1, c2, c3, c4, c5, c6⟩ := par_cells hg1
      obtain ⟨k0, k1, k2, -, -, -⟩ := elem_cells hh1
      have j0 : w1.cell? ⟨w.heap.size + 1 + 1, 0, none⟩ = some (.int .i64 k) := by rw [cell_of_row w1 _ 0 _ _ (0, 0) hf1]; rfl
      obtain ⟨q0, q1, q2, f0, f1, f2⟩ := elem_cells he1
      have hBw := hB0.trans (hb1.mono hB0.size)
      clear he1 hg1 hh1 hf1
      go_wp2
      refine bodyPost_ret (v := .tuple #[.agg #[.int .i64 0, .bool false, .slice none 0 0], .int .i64 2]) ?_ rfl (HNO.out _ ?_)
      · simp [results, Try.results20, go_sem, q0, q1, q2]
      · exact ((hBw.setCell (by simp; omega) _).setCell (by simp; omega) _).setCell (by simp; omega) _
  obtain ⟨kk, rfl, hk1, hk2, hk3⟩ : ∃ kk : Nat, k = (kk : Int) ∧ kk % 2 = 1 ∧ kk < 2 * n ∧ 1 ≤ kk := by
    unfold autB at hk
    simp only [Bool.and_eq_true, decide_eq_true_eq] at hk
    exact ⟨k.toNat, by omega, by omega, by omega, by omega⟩
  obtain rfl : r = true := by rw [HRR.out, hk]; rfl
  have hsz : SizeN n := checkB_size HCK.out.symm
  have HMR2 : Hid (mr = zipRows (autR n kk) (modl chain sp lv sa) xs xs (modl chain sp lv sa).length) := by show _ = _; rw [HMR.out]; simp only [Int.toNat_natCast]
  have HSUM : Hid (∀ W, Below W0.heap.size W0 W → Calls Try.prog 46 #[.pointer (some ⟨w.heap.size, 0, none⟩), .int .i64 (lv : Int), .bool sa, .func (.func 58) #[] #[.pointer (some ⟨w.heap.size + 1, 0, none⟩), .pointer (some ⟨w.heap.size + 1 + 1, 0, none⟩), .pointer (some ⟨w.heap.size, 0, none⟩)]] W (MadeElt (lv : Int) sa mr W)) := fun W hb => by
    rw [HMR2.out]
    have hm : ∀ x, modAt (modl chain sp lv sa) x ∈ modl chain sp lv sa := fun x => List.getElem_mem _
    have hml := modl_length chain sp lv sa i4
    refine each_zip n lv pr pw wt er _ chain sp sa xs xs w.heap.size W (autR n kk) _ _ ((HR0.out.below hb).mono (Below.size hb)) (hold_heap HG0.out hb) i3 i4 i5 i2 i6 (fun q hq a b => (autR_ok n kk q (by have := i6 q hq; omega) a b).1) ?_ (enters_of Try.func58 (by kernel_rfl) rfl)
    intro x g W' hB hg hz
    obtain ⟨a1, a2, a3⟩ := fin_elt i7 x
    have hx := x.isLt
    obtain ⟨m1, m2⟩ := i6 _ (hm x)
    have hx2 : x.val ≤ 1000 := by split at hml <;> omega
    exact auto1_any x.val (modAt (modl chain sp lv sa) x) n g (w.heap.size + 1 + 1) (w.heap.size + 1) w.heap.size W.heap.size kk _ _ _ _ _ _ _ _ _ xs _ W' m1 m2 hsz hx2 hk1 hk2 (hold_heap (hold_heap HE1.out hb) hB) (hold_heap (hold_heap HG0.out hb) hB) (hold_heap (hold_heap HE0.out hb) hB) (((HA0.out.below hb).mono (Below.size hb)).below hB) a1 a2 a3 (Nat.lt_of_lt_of_le (lt_of_heap HE1.out) (Below.size hb)) (Nat.lt_of_lt_of_le (lt_of_heap HE0.out) (Below.size hb)) (Nat.lt_of_lt_of_le (lt_of_heap HG0.out) (Below.size hb)) hg hz
  unfold MadeElt at HSUM
  obtain ⟨n2, hn2⟩ : ∃ n2, n2 = 2 * (n : Int) := ⟨_, rfl⟩
  have t3 : 2 * (n : Int) = n2 := hn2.symm
  have t4 : n2 ≤ 64 := by omega
  have t5 : ¬ (kk : Int) < 1 := by omega
  have t6 : ¬ n2 ≤ (kk : Int) := by omega
  have t7 : (kk : Int) % 2 = 1 := by omega
  have t8 : (kk : Int).tmod 2 = 1 := by rw [Int.tmod_eq_emod_of_nonneg (by omega)]; exact t7
  clear hk hk1 hn2
  clear i7 HMR HRR HCK
  go_enter Try.func20, Try.ntmps20
  go_upto_region 1 with (fail)
  rw [← HW0.out]
  go_wp2_with fail
  refine HT.out.mono ?_
  rintro e w1 ⟨rfl, hb1⟩
  have hg1 := (hb1.block w.heap.size (by omega)).trans HG0.out
  have he1 := (hb1.block (w.heap.size + 1) (by omega)).trans HE0.out
  have hf1 := (hb1.block (w.heap.size + 1 + 1) (by omega)).trans HE1.out
  have hs1 := hb1.size
  have HS1 := HSUM.out w1 hb1
  clear c0 c1 c2 c3 c4 c5 c6 k0 k1 k2 j0
  obtain ⟨c0, c1, c2, c3, c4, c5, c6⟩ := par_cells hg1
  obtain ⟨k0, k1, k2, -, -, -⟩ := elem_cells he1
  have j0 : w1.cell? ⟨w.heap.size + 1 + 1, 0, none⟩ = some (.int .i64 (kk : Int)) := by rw [cell_of_row w1 _ 0 _ _ (0, 0) hf1]; rfl
  clear hg1 he1 hf1
  go_wp2_with fail
  refine HS1.mono ?_
  rintro e w2 ⟨⟨rv, rfl, hrv⟩, hb2⟩
  have hB2 := hb1.trans (hb2.mono hs1)
  have he2 := (hB2.block _ hz0).trans HE2.out
  obtain ⟨q0, q1, q2, f0, f1, f2⟩ := elem_cells he2
  obtain ⟨ra, rc, rfl⟩ := hrv.open_
  have HRV := Lib.hid hrv
  have HE2' := Lib.hid he2
  have hBw := hB0.trans (hB2.mono hB0.size)
  have hlz := lt_of_heap he2
  clear c0 c1 c2 c3 c4 c5 c6 k0 k1 k2 j0 HS1 he2 hrv
  go_wp2
  obtain ⟨W6, hW6⟩ : ∃ W6, W6 = ((w2.setCell ⟨w.heap.size + 1 + 1 + 1, 0, none⟩ (.int .i64 (lv : Int))).setCell ⟨w.heap.size + 1 + 1 + 1, 1, none⟩ (.bool sa)).setCell ⟨w.heap.size + 1 + 1 + 1, 2, none⟩ (.slice ra mr.length rc) := ⟨_, rfl⟩
  obtain ⟨h6, -, hB6⟩ := elem_store HE2'.out hW6
  have hr6 : W6.rowsO u32V w1.heap.size 23 22 (.slice ra mr.length rc) mr := by
    rw [hW6]; exact ((HRV.out.setCell (by simp; omega) _).setCell (by simp; omega) _).setCell (by simp; omega) _
  obtain ⟨x0, x1, x2, -, -, -⟩ := elem_cells h6
  rw [← hW6]
  refine bodyPost_ret (v := .tuple #[.agg #[.int .i64 (lv : Int), .bool sa, .slice ra mr.length rc], .int .i64 0]) ?_ rfl (EltPost.ok_ (hr6.mono (by omega)) (hB6 _ _ hBw (by omega)))
  simp [results, Try.results20, go_sem, x0, x1, x2]
end Go.Proofs.Ytkjlfjnncdkmlaa.G

/- Walks: restrictions (the program's). -/
namespace Go.Proofs.Ytkjlfjnncdkmlaa.G
set_option linter.all false
open Go.RowKit Go.Shelf Go.BigFrame
set_option maxRecDepth 100000 in
set_option maxHeartbeats 40000000 in
theorem restr_any (N pr pw wt er : Int) (cv : Value) (chain : List Nat) (sp : Nat) (la : Int) (sa : Bool) (av : Value) (xs : List (List Nat)) (level : Int) (special : Bool) (w : World) (hr : w.reads w.heap.size cv (chain.map u32V)) (ha : w.rows u32V w.heap.size av xs) :
    Calls Try.prog 18 #[.agg #[.int .i64 N, .int .u32 pr, .int .i64 pw, cv, .int .u32 (sp : Int), .int .i64 wt, .int .u32 er], .agg #[.int .i64 la, .bool sa, av], .int .i64 level, .bool special] w (EltPost (checkB N chain sp la sa xs && resB2 la sa level special) level special (resRows la.toNat level.toNat special xs) w) := by
  obtain ⟨r, hrr⟩ : ∃ r, r = (checkB N chain sp la sa xs && resB2 la sa level special) := ⟨_, rfl⟩
  rw [← hrr]
  obtain ⟨mr, hmr⟩ : ∃ mr, mr = resRows la.toNat level.toNat special xs := ⟨_, rfl⟩
  rw [← hmr]
  obtain ⟨a, cap, rfl, hcap, hmx, -⟩ := reads_u32 hr
  obtain ⟨aa, ac, rfl, hac, ham, has⟩ := ha.shape
  obtain ⟨W0, hW0⟩ : ∃ W0, W0 = (((w.alloc (.cells #[.int .i64 N, .int .u32 pr, .int .i64 pw, .slice a chain.length cap, .int .u32 (sp : Int), .int .i64 wt, .int .u32 er] 25)).alloc (.cells #[.int .i64 la, .bool sa, .slice aa xs.length ac] 28)).alloc (.cells #[.int .i64 level] 3)).alloc (.cells #[.int .i64 0, .bool false, .slice none 0 0] 28) := ⟨_, rfl⟩
  have hB0 : Below w.heap.size w W0 := by rw [hW0]; exact ((((Below.refl _ w).alloc (Nat.le_refl _) _).alloc (by simp) _).alloc (by first | (simp; done) | (simp; omega)) _).alloc (by first | (simp; done) | (simp; omega)) _
  have g0 : W0.heap[w.heap.size]? = some (.cells #[.int .i64 N, .int .u32 pr, .int .i64 pw, .slice a chain.length cap, .int .u32 (sp : Int), .int .i64 wt, .int .u32 er] 25) := by rw [hW0, Below.heap_alloc _ _ _ (by first | (simp; done) | (simp; omega)), Below.heap_alloc _ _ _ (by first | (simp; done) | (simp; omega)), Below.heap_alloc _ _ _ (by simp)]; exact alloc_last _ _ rfl
  have e0 : W0.heap[w.heap.size + 1]? = some (.cells #[.int .i64 la, .bool sa, .slice aa xs.length ac] 28) := by rw [hW0, Below.heap_alloc _ _ _ (by first | (simp; done) | (simp; omega)), Below.heap_alloc _ _ _ (by simp)]; exact alloc_last _ _ (by simp)
  have e1 : W0.heap[w.heap.size + 1 + 1]? = some (.cells #[.int .i64 level] 3) := by rw [hW0, Below.heap_alloc _ _ _ (by simp)]; exact alloc_last _ _ (by simp)
  have e2 : W0.heap[w.heap.size + 1 + 1 + 1]? = some (.cells #[.int .i64 0, .bool false, .slice none 0 0] 28) := by rw [hW0]; exact alloc_last _ _ (by simp)
  have hz0 := lt_of_heap e2
  have HR0 := Lib.hid ((hr.below hB0).mono hB0.size)
  have HA0 := Lib.hid ((ha.below hB0).mono hB0.size)
  have HT := Lib.hid (checkE N pr pw wt er _ chain sp la sa _ xs W0 HR0.out HA0.out)
  unfold ErrPost errI at HT
  obtain ⟨ck, hck⟩ : ∃ c, c = checkB N chain sp la sa xs := ⟨_, rfl⟩
  rw [← hck] at HT hrr
  obtain ⟨c0, c1, c2, c3, c4, c5, c6⟩ := par_cells g0
  obtain ⟨k0, k1, k2, -, -, -⟩ := elem_cells e0
  have j0 : W0.cell? ⟨w.heap.size + 1 + 1, 0, none⟩ = some (.int .i64 level) := by rw [cell_of_row W0 _ 0 _ _ (0, 0) e1]; rfl
  have HG0 := Lib.hid g0
  have HE0 := Lib.hid e0
  have HE1 := Lib.hid e1
  have HE2 := Lib.hid e2
  have HW0 := Lib.hid hW0
  have HRR := Lib.hid hrr
  have HMR := Lib.hid hmr
  have HCK := Lib.hid hck
  have HNO : Hid (∀ w' : World, Below w.heap.size w w' → EltPost false level special mr w (.returned (.tuple #[.agg #[.int .i64 0, .bool false, .slice none 0 0], .int .i64 2])) w') := fun w' h => EltPost.no_ h
  clear hr ha g0 e0 e1 e2 hW0 hrr hmr has hck
  cases ck with
  | false =>
    obtain rfl : r = false := by rw [HRR.out]; try rfl
    go_enter Try.func18, Try.ntmps18
    go_upto_region 1 with (fail)
    rw [← HW0.out]
    go_wp2_with fail
    refine HT.out.mono ?_
    rintro e w1 ⟨rfl, hb1⟩
    have he1 := (hb1.block _ hz0).trans HE2.out
    obtain ⟨q0, q1, q2, f0, f1, f2⟩ := elem_cells he1
    have hBw := hB0.trans (hb1.mono hB0.size)
    clear he1
    go_wp2
    refine bodyPost_ret (v := .tuple #[.agg #[.int .i64 0, .bool false, .slice none 0 0], .int .i64 2]) ?_ rfl (HNO.out _ ?_)
    · simp [results, Try.results18, go_sem, q0, q1, q2]
    · exact ((hBw.setCell (by simp; omega) _).setCell (by simp; omega) _).setCell (by simp; omega) _
  | true =>
  obtain ⟨n, lv, rfl, rfl, i1, i2, i3, i4, i5, i6, i7⟩ := checkB_elt HCK.out.symm
  by_cases hk : resB2 (lv : Int) sa level special = true
  case neg =>
    have hkf : resB2 (lv : Int) sa level special = false := by simpa using hk
    have t1 : level < 1 ∨ (¬ level < 1 ∧ (lv : Int) < level) ∨ (¬ level < 1 ∧ ¬ (lv : Int) < level ∧ special = true ∧ sa = false) := by
      unfold resB2 at hkf
      cases special <;> cases sa <;> simp at hkf <;> simp <;> omega
    rcases t1 with t1 | ⟨t1, t2⟩ | ⟨t1, t2, rfl, rfl⟩
    · clear hk
      obtain rfl : r = false := by rw [HRR.out]; rw [hkf]; rfl
      go_enter Try.func18, Try.ntmps18
      go_upto_region 1 with (fail)
      rw [← HW0.out]
      go_wp2_with fail
      refine HT.out.mono ?_
      rintro e w1 ⟨rfl, hb1⟩
      have he1 := (hb1.block _ hz0).trans HE2.out
      have hg1 := (hb1.block w.heap.size (by omega)).trans HG0.out
      have hh1 := (hb1.block (w.heap.size + 1) (by omega)).trans HE0.out
      have hf1 := (hb1.block (w.heap.size + 1 + 1) (by omega)).trans HE1.out
      clear c0 c1 c2 c3 c4 c5 c6 k0 k1 k2 j0
      obtain ⟨c0, c1, c2, c3, c4, c5, c6⟩ := par_cells hg1
      obtain ⟨k0, k1, k2, -, -, -⟩ := elem_cells hh1
      have j0 : w1.cell? ⟨w.heap.size + 1 + 1, 0, none⟩ = some (.int .i64 level) := by rw [cell_of_row w1 _ 0 _ _ (0, 0) hf1]; rfl
      obtain ⟨q0, q1, q2, f0, f1, f2⟩ := elem_cells he1
      have hBw := hB0.trans (hb1.mono hB0.size)
      clear he1 hg1 hh1 hf1
      go_wp2
      refine bodyPost_ret (v := .tuple #[.agg #[.int .i64 0, .bool false, .slice none 0 0], .int .i64 2]) ?_ rfl (HNO.out _ ?_)
      · simp [results, Try.results18, go_sem, q0, q1, q2]
      · exact ((hBw.setCell (by simp; omega) _).setCell (by simp; omega) _).setCell (by simp; omega) _
    · clear hk
      obtain rfl : r = false := by rw [HRR.out]; rw [hkf]; rfl
      go_enter Try.func18, Try.ntmps18
      go_upto_region 1 with (fail)
      rw [← HW0.out]
      go_wp2_with fail
      refine HT.out.mono ?_
      rintro e w1 ⟨rfl, hb1⟩
      have he1 := (hb1.block _ hz0).trans HE2.out
      have hg1 := (hb1.block w.heap.size (by omega)).trans HG0.out
      have hh1 := (hb1.block (w.heap.size + 1) (by omega)).trans HE0.out
      have hf1 := (hb1.block (w.heap.size + 1 + 1) (by omega)).trans HE1.out
      clear c0 c1 c2 c3 c4 c5 c6 k0 k1 k2 j0
      obtain ⟨c0, c1, c2, c3, c4, c5, c6⟩ := par_cells hg1
      obtain ⟨k0, k1, k2, -, -, -⟩ := elem_cells hh1
      have j0 : w1.cell? ⟨w.heap.size + 1 + 1, 0, none⟩ = some (.int .i64 level) := by rw [cell_of_row w1 _ 0 _ _ (0, 0) hf1]; rfl
      obtain ⟨q0, q1, q2, f0, f1, f2⟩ := elem_cells he1
      have hBw := hB0.trans (hb1.mono hB0.size)
      clear he1 hg1 hh1 hf1
      go_wp2
      refine bodyPost_ret (v := .tuple #[.agg #[.int .i64 0, .bool false, .slice none 0 0], .int .i64 2]) ?_ rfl (HNO.out _ ?_)
      · simp [results, Try.results18, go_sem, q0, q1, q2]
      · exact ((hBw.setCell (by simp; omega) _).setCell (by simp; omega) _).setCell (by simp; omega) _
    · clear hk
      obtain rfl : r = false := by rw [HRR.out]; rw [hkf]; rfl
      go_enter Try.func18, Try.ntmps18
      go_upto_region 1 with (fail)
      rw [← HW0.out]
      go_wp2_with fail
      refine HT.out.mono ?_
      rintro e w1 ⟨rfl, hb1⟩
      have he1 := (hb1.block _ hz0).trans HE2.out
      have hg1 := (hb1.block w.heap.size (by omega)).trans HG0.out
      have hh1 := (hb1.block (w.heap.size + 1) (by omega)).trans HE0.out
      have hf1 := (hb1.block (w.heap.size + 1 + 1) (by omega)).trans HE1.out
      clear c0 c1 c2 c3 c4 c5 c6 k0 k1 k2 j0
      obtain ⟨c0, c1, c2, c3, c4, c5, c6⟩ := par_cells hg1
      obtain ⟨k0, k1, k2, -, -, -⟩ := elem_cells hh1
      have j0 : w1.cell? ⟨w.heap.size + 1 + 1, 0, none⟩ = some (.int .i64 level) := by rw [cell_of_row w1 _ 0 _ _ (0, 0) hf1]; rfl
      obtain ⟨q0, q1, q2, f0, f1, f2⟩ := elem_cells he1
      have hBw := hB0.trans (hb1.mono hB0.size)
      clear he1 hg1 hh1 hf1
      go_wp2
      refine bodyPost_ret (v := .tuple #[.agg #[.int .i64 0, .bool false, .slice none 0 0], .int .i64 2]) ?_ rfl (HNO.out _ ?_)
      · simp [results, Try.results18, go_sem, q0, q1, q2]
      · exact ((hBw.setCell (by simp; omega) _).setCell (by simp; omega) _).setCell (by simp; omega) _
  obtain ⟨l2, rfl, hl1, hl2, hss⟩ : ∃ l2 : Nat, level = (l2 : Int) ∧ 1 ≤ l2 ∧ l2 ≤ lv ∧ (special = true → sa = true) := by
    unfold resB2 at hk
    simp only [Bool.and_eq_true, decide_eq_true_eq] at hk
    refine ⟨level.toNat, by omega, by omega, by omega, fun h => ?_⟩
    have := hk.2
    rw [h] at this
    simpa using this
  obtain rfl : r = true := by rw [HRR.out, hk]; rfl
  have HMR2 : Hid (mr = resRows lv l2 special xs) := by show _ = _; rw [HMR.out]; simp only [Int.toNat_natCast]
  have HSUM : Hid (∀ W, Below W0.heap.size W0 W → Calls Try.prog 46 #[.pointer (some ⟨w.heap.size, 0, none⟩), .int .i64 (l2 : Int), .bool special, .func (.func 56) #[] #[.pointer (some ⟨w.heap.size + 1 + 1, 0, none⟩), .pointer (some ⟨w.heap.size + 1, 0, none⟩)]] W (MadeElt (l2 : Int) special mr W)) := fun W hb => by
    rw [HMR2.out, ← res_fin chain sp lv l2 sa special hl2 i4 hss xs i7.1]
    have hml := modl_length chain sp lv sa i4
    have hmv := modl_length chain sp l2 special (by omega)
    have hsel : ∀ x : Fin (modl chain sp l2 special).length, ∃ r, xs[if x.val = l2 then lv else x.val]? = some r ∧ xs.getD (if x.val = l2 then lv else x.val) [] = r ∧ r.length = n := fun x => by
      have hx := Nat.lt_of_lt_of_eq x.isLt hmv
      have hi : (if x.val = l2 then lv else x.val) < xs.length := by
        rw [i7.1, hml]
        cases special with
        | false => simp at hx; split <;> omega
        | true => rw [hss rfl]; simp at hx ⊢; split <;> omega
      refine ⟨_, List.getElem?_eq_getElem hi, by rw [List.getD_eq_getElem?_getD, List.getElem?_eq_getElem hi]; rfl, (i7.2 _ _ (List.getElem?_eq_getElem hi)).1⟩
    have hmq : ∀ q ∈ modl chain sp l2 special, q < 4294967296 := fun q hq => by
      unfold modl at hq
      rcases List.mem_append.1 hq with h | h
      · have h1 : q ∈ modl chain sp lv sa := by
          unfold modl
          refine List.mem_append_left _ ?_
          have : chain.take l2 = (chain.take lv).take l2 := by rw [List.take_take, Nat.min_eq_left hl2]
          rw [this] at h
          exact List.mem_of_mem_take h
        have := i6 q h1; omega
      · cases special with
        | false => simp at h
        | true =>
          have h1 : q ∈ modl chain sp lv sa := by
            unfold modl
            rw [hss rfl]
            exact List.mem_append_right _ h
          have := i6 q h1; omega
    refine (each_any n (by omega) pr pw wt er _ chain sp l2 special w.heap.size W (by omega) i5 hl1 (fun x => hmq _ (List.getElem_mem _)) ((HR0.out.below hb).mono (Below.size hb)) (hold_heap HG0.out hb) 56 #[.pointer (some ⟨w.heap.size + 1 + 1, 0, none⟩), .pointer (some ⟨w.heap.size + 1, 0, none⟩)] (fun x => xs.getD (if x.val = l2 then lv else x.val) []) (fun x => by obtain ⟨r, -, h1, h2⟩ := hsel x; rw [h1]; exact h2) ?_ (enters_of Try.func56 (by kernel_rfl) rfl)).mono ?_
    · intro x g W' hB hg hz
      obtain ⟨rr, a1, a2, a3⟩ := hsel x
      have hx := x.isLt
      have hx2 : x.val ≤ 1000 := by split at hmv <;> omega
      show Calls _ _ _ _ _
      simp only []
      rw [a2]
      exact restrict1_any x.val (modAt (modl chain sp l2 special) x) n g (w.heap.size + 1 + 1) (w.heap.size + 1) W.heap.size lv l2 _ _ _ xs rr W' (by omega) hx2 (by omega) (by omega) (by omega) rfl (hold_heap (hold_heap HE1.out hb) hB) (hold_heap (hold_heap HE0.out hb) hB) (((HA0.out.below hb).mono (Below.size hb)).below hB) a1 a3 (Nat.lt_of_lt_of_le (lt_of_heap HE0.out) (Below.size hb)) hg hz
    · rintro e w' ⟨⟨rv, he, hrv⟩, hbb⟩
      exact ⟨⟨rv, he, hrv.2⟩, hbb⟩
  unfold MadeElt at HSUM
  have t5 : ¬ (l2 : Int) < 1 := by omega
  have t6 : ¬ (lv : Int) < (l2 : Int) := by omega
  have HBB : special = false ∨ (special = true ∧ sa = true) := by
    cases special with
    | false => exact .inl rfl
    | true => exact .inr ⟨rfl, hss rfl⟩
  clear hk hss hl1 hl2
  rcases HBB with rfl | ⟨rfl, rfl⟩
  · clear i7 HMR HRR HCK
    go_enter Try.func18, Try.ntmps18
    go_upto_region 1 with (fail)
    rw [← HW0.out]
    go_wp2_with fail
    refine HT.out.mono ?_
    rintro e w1 ⟨rfl, hb1⟩
    have hg1 := (hb1.block w.heap.size (by omega)).trans HG0.out
    have he1 := (hb1.block (w.heap.size + 1) (by omega)).trans HE0.out
    have hf1 := (hb1.block (w.heap.size + 1 + 1) (by omega)).trans HE1.out
    have hs1 := hb1.size
    have HS1 := HSUM.out w1 hb1
    clear c0 c1 c2 c3 c4 c5 c6 k0 k1 k2 j0
    obtain ⟨c0, c1, c2, c3, c4, c5, c6⟩ := par_cells hg1
    obtain ⟨k0, k1, k2, -, -, -⟩ := elem_cells he1
    have j0 : w1.cell? ⟨w.heap.size + 1 + 1, 0, none⟩ = some (.int .i64 (l2 : Int)) := by rw [cell_of_row w1 _ 0 _ _ (0, 0) hf1]; rfl
    clear hg1 he1 hf1
    go_wp2_with fail
    refine HS1.mono ?_
    rintro e w2 ⟨⟨rv, rfl, hrv⟩, hb2⟩
    have hB2 := hb1.trans (hb2.mono hs1)
    have he2 := (hB2.block _ hz0).trans HE2.out
    obtain ⟨q0, q1, q2, f0, f1, f2⟩ := elem_cells he2
    obtain ⟨ra, rc, rfl⟩ := hrv.open_
    have HRV := Lib.hid hrv
    have HE2' := Lib.hid he2
    have hBw := hB0.trans (hB2.mono hB0.size)
    have hlz := lt_of_heap he2
    clear c0 c1 c2 c3 c4 c5 c6 k0 k1 k2 j0 HS1 he2 hrv
    go_wp2
    obtain ⟨W6, hW6⟩ : ∃ W6, W6 = ((w2.setCell ⟨w.heap.size + 1 + 1 + 1, 0, none⟩ (.int .i64 (l2 : Int))).setCell ⟨w.heap.size + 1 + 1 + 1, 1, none⟩ (.bool false)).setCell ⟨w.heap.size + 1 + 1 + 1, 2, none⟩ (.slice ra mr.length rc) := ⟨_, rfl⟩
    obtain ⟨h6, -, hB6⟩ := elem_store HE2'.out hW6
    have hr6 : W6.rowsO u32V w1.heap.size 23 22 (.slice ra mr.length rc) mr := by
      rw [hW6]; exact ((HRV.out.setCell (by simp; omega) _).setCell (by simp; omega) _).setCell (by simp; omega) _
    obtain ⟨x0, x1, x2, -, -, -⟩ := elem_cells h6
    rw [← hW6]
    refine bodyPost_ret (v := .tuple #[.agg #[.int .i64 (l2 : Int), .bool false, .slice ra mr.length rc], .int .i64 0]) ?_ rfl (EltPost.ok_ (hr6.mono (by omega)) (hB6 _ _ hBw (by omega)))
    simp [results, Try.results18, go_sem, x0, x1, x2]
  · clear i7 HMR HRR HCK
    go_enter Try.func18, Try.ntmps18
    go_upto_region 1 with (fail)
    rw [← HW0.out]
    go_wp2_with fail
    refine HT.out.mono ?_
    rintro e w1 ⟨rfl, hb1⟩
    have hg1 := (hb1.block w.heap.size (by omega)).trans HG0.out
    have he1 := (hb1.block (w.heap.size + 1) (by omega)).trans HE0.out
    have hf1 := (hb1.block (w.heap.size + 1 + 1) (by omega)).trans HE1.out
    have hs1 := hb1.size
    have HS1 := HSUM.out w1 hb1
    clear c0 c1 c2 c3 c4 c5 c6 k0 k1 k2 j0
    obtain ⟨c0, c1, c2, c3, c4, c5, c6⟩ := par_cells hg1
    obtain ⟨k0, k1, k2, -, -, -⟩ := elem_cells he1
    have j0 : w1.cell? ⟨w.heap.size + 1 + 1, 0, none⟩ = some (.int .i64 (l2 : Int)) := by rw [cell_of_row w1 _ 0 _ _ (0, 0) hf1]; rfl
    clear hg1 he1 hf1
    go_wp2_with fail
    refine HS1.mono ?_
    rintro e w2 ⟨⟨rv, rfl, hrv⟩, hb2⟩
    have hB2 := hb1.trans (hb2.mono hs1)
    have he2 := (hB2.block _ hz0).trans HE2.out
    obtain ⟨q0, q1, q2, f0, f1, f2⟩ := elem_cells he2
    obtain ⟨ra, rc, rfl⟩ := hrv.open_
    have HRV := Lib.hid hrv
    have HE2' := Lib.hid he2
    have hBw := hB0.trans (hB2.mono hB0.size)
    have hlz := lt_of_heap he2
    clear c0 c1 c2 c3 c4 c5 c6 k0 k1 k2 j0 HS1 he2 hrv
    go_wp2
    obtain ⟨W6, hW6⟩ : ∃ W6, W6 = ((w2.setCell ⟨w.heap.size + 1 + 1 + 1, 0, none⟩ (.int .i64 (l2 : Int))).setCell ⟨w.heap.size + 1 + 1 + 1, 1, none⟩ (.bool true)).setCell ⟨w.heap.size + 1 + 1 + 1, 2, none⟩ (.slice ra mr.length rc) := ⟨_, rfl⟩
    obtain ⟨h6, -, hB6⟩ := elem_store HE2'.out hW6
    have hr6 : W6.rowsO u32V w1.heap.size 23 22 (.slice ra mr.length rc) mr := by
      rw [hW6]; exact ((HRV.out.setCell (by simp; omega) _).setCell (by simp; omega) _).setCell (by simp; omega) _
    obtain ⟨x0, x1, x2, -, -, -⟩ := elem_cells h6
    rw [← hW6]
    refine bodyPost_ret (v := .tuple #[.agg #[.int .i64 (l2 : Int), .bool true, .slice ra mr.length rc], .int .i64 0]) ?_ rfl (EltPost.ok_ (hr6.mono (by omega)) (hB6 _ _ hBw (by omega)))
    simp [results, Try.results18, go_sem, x0, x1, x2]
end Go.Proofs.Ytkjlfjnncdkmlaa.G

/- Walks: two lists of words, of rows, of elements are the same. -/
namespace Go.Proofs.Ytkjlfjnncdkmlaa.G
open Go.RowKit Go.Shelf Go.BigFrame
theorem take_eq_succ {α : Type} (xs ys : List α) (k : Nat) (x : α) (h : xs.take k = ys.take k) (hx : xs[k]? = some x) (hy : ys[k]? = some x) : xs.take (k + 1) = ys.take (k + 1) := by
  rw [List.take_add_one, List.take_add_one, h, hx, hy]
set_option maxHeartbeats 4000000 in
theorem same5_any (v1 v2 : Value) (xs ys : List Nat) (B1 B2 : Nat) (w : World) (h1 : w.reads B1 v1 (xs.map u32V)) (h2 : w.reads B2 v2 (ys.map u32V)) :
    Calls Try.prog 93 #[v1, v2] w fun e w' => e = .returned (.bool (decide (xs = ys))) ∧ ∃ n, w' = w.drewN n := by
  have hl1 := h1.le_map
  have hl2 := h2.le_map
  obtain ⟨a1, c1, rfl, hc1, hm1, hs1⟩ := reads_u32 h1
  obtain ⟨a2, c2, rfl, hc2, hm2, hs2⟩ := reads_u32 h2
  have HS1 := Lib.hid hs1
  have HS2 := Lib.hid hs2
  clear hs1 hs2 h1 h2
  by_cases hlen : xs.length = ys.length
  · obtain ⟨m, hm⟩ : ∃ m, m = ys.length := ⟨_, rfl⟩
    have hxm : xs.length = m := by omega
    rw [← hm, hxm]
    rw [← hm] at hl2 hc2
    rw [hxm] at hl1 hc1
    have HXM := Lib.hid hxm
    have HYM := Lib.hid hm
    clear hxm hm hlen
    go_enter Try.func93, Try.ntmps93
    go_wp2
    go_loopw [5] (fun i wx => ∃ k n : Nat, k ≤ m ∧ i = .int .i64 (k : Int) ∧ wx = w.drewN n ∧ Hid (xs.take k = ys.take k)) (fun i _ => m - (intOf i).toNat)
    case atStart => exact ⟨0, 0, Nat.zero_le _, rfl, rfl, by show _ = _; simp⟩
    case round =>
      obtain ⟨k, n0, hk, rfl, rfl, hall⟩ := hrel
      by_cases hlt : k < m
      · obtain ⟨x, hx⟩ : ∃ x, xs[k]? = some x := ⟨xs[k]'(by have := HXM.out; omega), List.getElem?_eq_getElem _⟩
        obtain ⟨y, hy⟩ : ∃ x, ys[k]? = some x := ⟨ys[k]'(by have := HYM.out; omega), List.getElem?_eq_getElem _⟩
        obtain ⟨b1, o1, rfl, _, hcx⟩ := HS1.out k x hx
        obtain ⟨b2, o2, rfl, _, hcy⟩ := HS2.out k y hy
        have HX := Lib.hid hx
        have HY := Lib.hid hy
        clear hx hy
        have i1 : (0 : Int) ≤ (k : Int) := by omega
        have i2 : (k : Int) < (m : Int) := by omega
        by_cases hxy : x = y
        · subst hxy
          have hb : ((x : Int) != (x : Int)) = false := by simp
          go_upto_region 6 with (fail)
          go_quiet (fail)
          go_wp2
          go_roundw
          case rel => exact ⟨k + 1, _, by omega, by go_num, rfl, take_eq_succ _ _ _ _ hall.out HX.out HY.out⟩
          case measure => simp [intOf]; omega
        · have hb : ((x : Int) != (y : Int)) = true := by rw [bne_iff_ne]; omega
          go_upto_region 6 with (fail)
          go_quiet (fail)
          go_wp2
          go_ret
          refine ⟨ret_bool ?_, _, World.drewN_drewN _ _ _⟩
          symm
          rw [decide_eq_false_iff_not]
          intro e
          have h3 := HX.out
          rw [e, HY.out] at h3
          exact hxy (by simpa using h3.symm)
      · obtain rfl : k = m := by omega
        have h2 := hall.out
        rw [List.take_of_length_le (by have := HXM.out; omega), List.take_of_length_le (by have := HYM.out; omega)] at h2
        have HH := Lib.hid h2
        clear h2 hall
        go_wp2
        go_ret
        exact ⟨ret_bool (by simp [HH.out]), _, rfl⟩
  · obtain ⟨m, hm⟩ : ∃ m, m = ys.length := ⟨_, rfl⟩
    obtain ⟨l, hl⟩ : ∃ l, l = xs.length := ⟨_, rfl⟩
    have HF : Hid (decide (xs = ys) = false) := by
      show _ = _
      rw [decide_eq_false_iff_not]
      intro e
      exact hlen (by rw [e])
    have hb : ((l : Int) != (m : Int)) = true := by rw [bne_iff_ne]; omega
    rw [← hm, ← hl]
    rw [← hl] at hl1 hc1
    rw [← hm] at hl2 hc2
    clear hm hl HS1 HS2 hlen
    go_enter Try.func93, Try.ntmps93
    go_wp2
    go_ret
    exact ⟨ret_bool HF.out.symm, 0, rfl⟩
end Go.Proofs.Ytkjlfjnncdkmlaa.G

/- Walks: two elements are the same. -/
namespace Go.Proofs.Ytkjlfjnncdkmlaa.G
open Go.RowKit Go.Shelf Go.BigFrame
set_option maxRecDepth 100000 in
set_option maxHeartbeats 8000000 in
theorem same09_any (l1 l2 : Int) (s1 s2 : Bool) (v1 v2 : Value) (xs ys : List (List Nat)) (B1 B2 : Nat) (w : World) (h1 : w.rows u32V B1 v1 xs) (h2 : w.rows u32V B2 v2 ys) (hB1 : B1 ≤ w.heap.size) (hB2 : B2 ≤ w.heap.size) :
    Calls Try.prog 57 #[.agg #[.int .i64 l1, .bool s1, v1], .agg #[.int .i64 l2, .bool s2, v2]] w fun e w' => e = .returned (.bool (decide (l1 = l2) && decide (s1 = s2) && decide (xs = ys))) ∧ Below w.heap.size w w' := by
  have hl1 := h1.le
  have hl2 := h2.le
  obtain ⟨a1, c1, rfl, hc1, hm1, hs1⟩ := h1.shape
  obtain ⟨a2, c2, rfl, hc2, hm2, hs2⟩ := h2.shape
  obtain ⟨W0, hW0⟩ : ∃ W0, W0 = (w.alloc (.cells #[.int .i64 l1, .bool s1, .slice a1 xs.length c1] 28)).alloc (.cells #[.int .i64 l2, .bool s2, .slice a2 ys.length c2] 28) := ⟨_, rfl⟩
  have hB0 : Below w.heap.size w W0 := by rw [hW0]; exact ((Below.refl _ w).alloc (Nat.le_refl _) _).alloc (by simp) _
  have g1 : W0.heap[w.heap.size]? = some (.cells #[.int .i64 l1, .bool s1, .slice a1 xs.length c1] 28) := by
    rw [hW0, Below.heap_alloc _ _ _ (by simp)]; exact alloc_last _ _ rfl
  have g2 : W0.heap[w.heap.size + 1]? = some (.cells #[.int .i64 l2, .bool s2, .slice a2 ys.length c2] 28) := by
    rw [hW0]; exact alloc_last _ _ (by simp)
  obtain ⟨hcw, -⟩ := bcell hB0
  obtain ⟨k0, k1, k2, -, -, -⟩ := elem_cells g1
  obtain ⟨j0, j1, j2, -, -, -⟩ := elem_cells g2
  have HW0 := Lib.hid hW0
  have HS1 : Hid (∀ (j : Nat) (r : List Nat), xs[j]? = some r → ∃ b off b2 c2, a1 = some ⟨b, off, none⟩ ∧ W0.cell? ⟨b, off + j, none⟩ = some (.slice b2 r.length c2) ∧ W0.reads w.heap.size (.slice b2 r.length c2) (r.map u32V)) := by
    intro j r hj
    obtain ⟨b, off, b2, c2, h1, h2, h3, h4⟩ := hs1 j r hj
    exact ⟨b, off, b2, c2, h1, by rw [hcw _ _ (by omega)]; exact h3, (h4.mono hB1).below hB0⟩
  have HS2 : Hid (∀ (j : Nat) (r : List Nat), ys[j]? = some r → ∃ b off b2 c2, a2 = some ⟨b, off, none⟩ ∧ W0.cell? ⟨b, off + j, none⟩ = some (.slice b2 r.length c2) ∧ W0.reads w.heap.size (.slice b2 r.length c2) (r.map u32V)) := by
    intro j r hj
    obtain ⟨b, off, b2, c2, h1, h2, h3, h4⟩ := hs2 j r hj
    exact ⟨b, off, b2, c2, h1, by rw [hcw _ _ (by omega)]; exact h3, (h4.mono hB2).below hB0⟩
  obtain ⟨r, hr⟩ : ∃ r, r = (decide (l1 = l2) && decide (s1 = s2) && decide (xs = ys)) := ⟨_, rfl⟩
  rw [← hr]
  obtain ⟨m, hm⟩ : ∃ m, m = ys.length := ⟨_, rfl⟩
  obtain ⟨l, hl⟩ : ∃ l, l = xs.length := ⟨_, rfl⟩
  rw [← hm] at hl2 hc2 j2
  rw [← hl] at hl1 hc1 k2
  rw [← hm, ← hl] at hW0
  have HW0 := Lib.hid hW0
  have HR := Lib.hid hr
  have HM := Lib.hid hm
  have HL := Lib.hid hl
  rw [← hm, ← hl]
  clear hs1 hs2 hcw g1 g2 h1 h2 hr hm hl hW0
  by_cases hl12 : l1 = l2
  · subst hl12
    have t1 : (l1 != l1) = false := by simp
    by_cases hs12 : s1 = s2
    · subst hs12
      have t2 : (s1 != s1) = false := by simp
      by_cases hlm : l = m
      · subst hlm
        have t3 : ((l : Int) != (l : Int)) = false := by simp
        have HR2 : Hid (r = decide (xs = ys)) := by show _ = _; rw [HR.out]; simp
        clear HR
        go_enter Try.func57, Try.ntmps57
        go_upto_region 1 with (fail)
        rw [← HW0.out]
        go_wp2
        go_loopw [5] (fun i wx => ∃ k n : Nat, k ≤ l ∧ i = .int .i64 (k : Int) ∧ wx = W0.drewN n ∧ Hid (xs.take k = ys.take k)) (fun i _ => l - (intOf i).toNat)
        case atStart => exact ⟨0, 0, Nat.zero_le _, rfl, rfl, by show _ = _; simp⟩
        case round =>
          obtain ⟨k, n0, hk, rfl, rfl, hall⟩ := hrel
          by_cases hlt : k < l
          · obtain ⟨x, hx⟩ : ∃ x, xs[k]? = some x := ⟨xs[k]'(by have := HL.out; omega), List.getElem?_eq_getElem _⟩
            obtain ⟨y, hy⟩ : ∃ x, ys[k]? = some x := ⟨ys[k]'(by have := HM.out; omega), List.getElem?_eq_getElem _⟩
            obtain ⟨b1, o1, p1, d1, rfl, hcx, hrx⟩ := HS1.out k x hx
            obtain ⟨b2, o2, p2, d2, rfl, hcy, hry⟩ := HS2.out k y hy
            have HX := Lib.hid hx
            have HY := Lib.hid hy
            have i1 : (0 : Int) ≤ (k : Int) := by omega
            have i2 : (k : Int) < (l : Int) := by omega
            have HSM := Lib.hid (fun n => same5_any _ _ x y _ _ ((W0.drewN n0).drewN n) ((hrx.drewN n0).drewN n) ((hry.drewN n0).drewN n))
            have hcx' : (W0.drewN n0).cell? ⟨b1, o1 + k, none⟩ = some (.slice p1 x.length d1) := hcx
            have hcy' : (W0.drewN n0).cell? ⟨b2, o2 + k, none⟩ = some (.slice p2 y.length d2) := hcy
            have k2' : (W0.drewN n0).cell? ⟨w.heap.size, 2, none⟩ = some (.slice (some ⟨b1, o1, none⟩) l c1) := k2
            have j2' : (W0.drewN n0).cell? ⟨w.heap.size + 1, 2, none⟩ = some (.slice (some ⟨b2, o2, none⟩) l c2) := j2
            have hBq : Below w.heap.size w (W0.drewN n0) := below_drewN hB0 _
            clear hx hy hrx hry hcx hcy k0 k1 k2 j0 j1 j2 hB0
            obtain ⟨wq, hwq⟩ : ∃ wq, wq = W0.drewN n0 := ⟨_, rfl⟩
            rw [← hwq] at hcx' hcy' k2' j2' HSM hBq ⊢
            have HWQ := Lib.hid hwq
            clear hwq
            by_cases hxy : x = y
            · subst hxy
              have hdt : decide (x = x) = true := by simp
              rw [hdt] at HSM
              go_upto_region 6 with (fail)
              go_quiet ((go_at_call 93; exact quiet_drew (HSM.out _)))
              go_wp2
              go_roundw
              case rel => exact ⟨k + 1, _, by omega, by go_num, by rw [HWQ.out, World.drewN_drewN], take_eq_succ _ _ _ _ hall.out HX.out HY.out⟩
              case measure => simp [intOf]; omega
            · have hdt : decide (x = y) = false := by simp [hxy]
              rw [hdt] at HSM
              obtain rfl : r = false := by
                rw [HR2.out, decide_eq_false_iff_not]
                intro e
                have h3 := HX.out
                rw [e, HY.out] at h3
                exact hxy (by simpa using h3.symm)
              go_upto_region 6 with (fail)
              go_quiet ((go_at_call 93; exact quiet_drew (HSM.out _)))
              go_wp2
              go_ret
              exact ⟨rfl, below_drewN hBq _⟩
          · obtain rfl : k = l := by omega
            have h2 := hall.out
            rw [List.take_of_length_le (by have := HL.out; omega), List.take_of_length_le (by have := HM.out; omega)] at h2
            obtain rfl : r = true := by rw [HR2.out]; simp [h2]
            clear h2 hall
            go_wp2
            go_ret
            exact ⟨rfl, by first | exact below_drewN hB0 _ | exact hB0⟩
      · have t3 : ((l : Int) != (m : Int)) = true := by rw [bne_iff_ne]; omega
        obtain rfl : r = false := by
          rw [HR.out]
          have : ¬ xs = ys := fun e => hlm (by rw [HL.out, HM.out, e])
          simp [this]
        clear hlm
        go_enter Try.func57, Try.ntmps57
        go_upto_region 1 with (fail)
        rw [← HW0.out]
        go_wp2
        go_ret
        exact ⟨rfl, hB0⟩
    · have t2 : (s1 == s2) = false := by rw [beq_eq_false_iff_ne]; exact hs12
      obtain rfl : r = false := by rw [HR.out]; simp [hs12]
      clear hs12
      go_enter Try.func57, Try.ntmps57
      go_upto_region 1 with (fail)
      rw [← HW0.out]
      go_wp2
      go_ret
      exact ⟨rfl, hB0⟩
  · have t1 : (l1 != l2) = true := by rw [bne_iff_ne]; exact hl12
    obtain rfl : r = false := by rw [HR.out]; simp [hl12]
    clear hl12
    go_enter Try.func57, Try.ntmps57
    go_upto_region 1 with (fail)
    rw [← HW0.out]
    go_wp2
    go_ret
    exact ⟨rfl, hB0⟩
end Go.Proofs.Ytkjlfjnncdkmlaa.G

/- Walks: two elements are the same (the program's). -/
namespace Go.Proofs.Ytkjlfjnncdkmlaa.G
set_option linter.all false
open Go.RowKit Go.Shelf Go.BigFrame
set_option maxHeartbeats 4000000 in
theorem equal_any (v1 v2 : Value) (xs ys : List Nat) (B1 B2 : Nat) (w : World) (h1 : w.reads B1 v1 (xs.map u32V)) (h2 : w.reads B2 v2 (ys.map u32V)) :
    Calls Try.prog 71 #[v1, v2] w fun e w' => e = .returned (.bool (decide (xs = ys))) ∧ ∃ n, w' = w.drewN n := by
  have hl1 := h1.le_map
  have hl2 := h2.le_map
  obtain ⟨a1, c1, rfl, hc1, hm1, hs1⟩ := reads_u32 h1
  obtain ⟨a2, c2, rfl, hc2, hm2, hs2⟩ := reads_u32 h2
  have HS1 := Lib.hid hs1
  have HS2 := Lib.hid hs2
  clear hs1 hs2 h1 h2
  by_cases hlen : xs.length = ys.length
  · obtain ⟨m, hm⟩ : ∃ m, m = ys.length := ⟨_, rfl⟩
    have hxm : xs.length = m := by omega
    rw [← hm, hxm]
    rw [← hm] at hl2 hc2
    rw [hxm] at hl1 hc1
    have HXM := Lib.hid hxm
    have HYM := Lib.hid hm
    clear hxm hm hlen
    go_enter Try.func71, Try.ntmps71
    go_wp2
    go_loopw [13] (fun i wx => ∃ k n : Nat, k ≤ m ∧ i = .int .i64 (k : Int) ∧ wx = w.drewN n ∧ Hid (xs.take k = ys.take k)) (fun i _ => m - (intOf i).toNat)
    case atStart => exact ⟨0, 0, Nat.zero_le _, rfl, rfl, by show _ = _; simp⟩
    case round =>
      obtain ⟨k, n0, hk, rfl, rfl, hall⟩ := hrel
      by_cases hlt : k < m
      · obtain ⟨x, hx⟩ : ∃ x, xs[k]? = some x := ⟨xs[k]'(by have := HXM.out; omega), List.getElem?_eq_getElem _⟩
        obtain ⟨y, hy⟩ : ∃ x, ys[k]? = some x := ⟨ys[k]'(by have := HYM.out; omega), List.getElem?_eq_getElem _⟩
        obtain ⟨b1, o1, rfl, _, hcx⟩ := HS1.out k x hx
        obtain ⟨b2, o2, rfl, _, hcy⟩ := HS2.out k y hy
        have HX := Lib.hid hx
        have HY := Lib.hid hy
        clear hx hy
        have i1 : (0 : Int) ≤ (k : Int) := by omega
        have i2 : (k : Int) < (m : Int) := by omega
        by_cases hxy : x = y
        · subst hxy
          have hb : ((x : Int) != (x : Int)) = false := by simp
          go_upto_region 6 with (fail)
          go_quiet (fail)
          go_wp2
          go_roundw
          case rel => exact ⟨k + 1, _, by omega, by go_num, rfl, take_eq_succ _ _ _ _ hall.out HX.out HY.out⟩
          case measure => simp [intOf]; omega
        · have hb : ((x : Int) != (y : Int)) = true := by rw [bne_iff_ne]; omega
          go_upto_region 6 with (fail)
          go_quiet (fail)
          go_wp2
          go_ret
          refine ⟨ret_bool ?_, _, World.drewN_drewN _ _ _⟩
          symm
          rw [decide_eq_false_iff_not]
          intro e
          have h3 := HX.out
          rw [e, HY.out] at h3
          exact hxy (by simpa using h3.symm)
      · obtain rfl : k = m := by omega
        have h2 := hall.out
        rw [List.take_of_length_le (by have := HXM.out; omega), List.take_of_length_le (by have := HYM.out; omega)] at h2
        have HH := Lib.hid h2
        clear h2 hall
        go_wp2
        go_ret
        exact ⟨ret_bool (by simp [HH.out]), _, rfl⟩
  · obtain ⟨m, hm⟩ : ∃ m, m = ys.length := ⟨_, rfl⟩
    obtain ⟨l, hl⟩ : ∃ l, l = xs.length := ⟨_, rfl⟩
    have HF : Hid (decide (xs = ys) = false) := by
      show _ = _
      rw [decide_eq_false_iff_not]
      intro e
      exact hlen (by rw [e])
    have hb : ((l : Int) != (m : Int)) = true := by rw [bne_iff_ne]; omega
    rw [← hm, ← hl]
    rw [← hl] at hl1 hc1
    rw [← hm] at hl2 hc2
    clear hm hl HS1 HS2 hlen
    go_enter Try.func71, Try.ntmps71
    go_wp2
    go_ret
    exact ⟨ret_bool HF.out.symm, 0, rfl⟩
set_option maxHeartbeats 4000000 in
theorem same1_any (v1 v2 : Value) (xs ys : List Nat) (B1 B2 : Nat) (w : World) (h1 : w.reads B1 v1 (xs.map u32V)) (h2 : w.reads B2 v2 (ys.map u32V)) :
    Calls Try.prog 70 #[v1, v2] w fun e w' => e = .returned (.bool (decide (xs = ys))) ∧ ∃ n, w' = w.drewN n := by
  have HE := Lib.hid (equal_any v1 v2 xs ys B1 B2 w h1 h2)
  obtain ⟨a1, c1, rfl, -⟩ := reads_u32 h1
  obtain ⟨a2, c2, rfl, -⟩ := reads_u32 h2
  clear h1 h2
  obtain ⟨b, hb⟩ : ∃ b, b = decide (xs = ys) := ⟨_, rfl⟩
  rw [← hb] at HE ⊢
  clear hb
  go_enter Try.func70, Try.ntmps70
  go_wp2_with fail
  (with_reducible refine (HE.out).mono ?_)
  rintro e w1 ⟨rfl, n, rfl⟩
  go_wp2
  go_ret
  exact ⟨rfl, n, rfl⟩
set_option maxRecDepth 100000 in
set_option maxHeartbeats 8000000 in
theorem equalF_any (v1 v2 : Value) (xs ys : List (List Nat)) (B1 B2 : Nat) (w : World) (h1 : w.rows u32V B1 v1 xs) (h2 : w.rows u32V B2 v2 ys) :
    Calls Try.prog 69 #[v1, v2, .func (.func 70) #[] #[]] w fun e w' => e = .returned (.bool (decide (xs = ys))) ∧ ∃ n, w' = w.drewN n := by
  have hl1 := h1.le
  have hl2 := h2.le
  obtain ⟨a1, c1, rfl, hc1, hm1, hs1⟩ := h1.shape
  obtain ⟨a2, c2, rfl, hc2, hm2, hs2⟩ := h2.shape
  have HS1 := Lib.hid hs1
  have HS2 := Lib.hid hs2
  clear hs1 hs2 h1 h2
  by_cases hlen : xs.length = ys.length
  · obtain ⟨m, hm⟩ : ∃ m, m = ys.length := ⟨_, rfl⟩
    have hxm : xs.length = m := by omega
    rw [← hm, hxm]
    rw [← hm] at hl2 hc2
    rw [hxm] at hl1 hc1
    have HXM := Lib.hid hxm
    have HYM := Lib.hid hm
    clear hxm hm hlen
    go_enter Try.func69, Try.ntmps69
    go_wp2
    go_loopw [17] (fun i wx => ∃ k n : Nat, k ≤ m ∧ i = .int .i64 (k : Int) ∧ wx = w.drewN n ∧ Hid (xs.take k = ys.take k)) (fun i _ => m - (intOf i).toNat)
    case atStart => exact ⟨0, 0, Nat.zero_le _, rfl, rfl, by show _ = _; simp⟩
    case round =>
      obtain ⟨k, n0, hk, rfl, rfl, hall⟩ := hrel
      by_cases hlt : k < m
      · obtain ⟨x, hx⟩ : ∃ x, xs[k]? = some x := ⟨xs[k]'(by have := HXM.out; omega), List.getElem?_eq_getElem _⟩
        obtain ⟨y, hy⟩ : ∃ x, ys[k]? = some x := ⟨ys[k]'(by have := HYM.out; omega), List.getElem?_eq_getElem _⟩
        obtain ⟨b1, o1, p1, d1, rfl, _, hcx, hrx⟩ := HS1.out k x hx
        obtain ⟨b2, o2, p2, d2, rfl, _, hcy, hry⟩ := HS2.out k y hy
        have HX := Lib.hid hx
        have HY := Lib.hid hy
        have HSM := Lib.hid (same1_any _ _ x y _ _ (w.drewN n0) (hrx.drewN n0) (hry.drewN n0))
        have hcx' : (w.drewN n0).cell? ⟨b1, o1 + k, none⟩ = some (.slice p1 x.length d1) := hcx
        have hcy' : (w.drewN n0).cell? ⟨b2, o2 + k, none⟩ = some (.slice p2 y.length d2) := hcy
        clear hx hy hcx hcy hrx hry
        have i1 : (0 : Int) ≤ (k : Int) := by omega
        have i2 : (k : Int) < (m : Int) := by omega
        by_cases hxy : x = y
        · subst hxy
          have hdt : decide (x = x) = true := by simp
          rw [hdt] at HSM
          go_wp2_with fail
          (with_reducible refine (HSM.out).mono ?_)
          rintro e w1 ⟨rfl, n, rfl⟩
          go_wp2
          go_roundw
          case rel => exact ⟨k + 1, _, by omega, by go_num, rfl, take_eq_succ _ _ _ _ hall.out HX.out HY.out⟩
          case measure => simp [intOf]; omega
        · have hdt : decide (x = y) = false := by simp [hxy]
          rw [hdt] at HSM
          go_wp2_with fail
          (with_reducible refine (HSM.out).mono ?_)
          rintro e w1 ⟨rfl, n, rfl⟩
          go_wp2
          go_ret
          refine ⟨ret_bool ?_, _, rfl⟩
          symm
          rw [decide_eq_false_iff_not]
          intro e
          have h3 := HX.out
          rw [e, HY.out] at h3
          exact hxy (by simpa using h3.symm)
      · obtain rfl : k = m := by omega
        have h2 := hall.out
        rw [List.take_of_length_le (by have := HXM.out; omega), List.take_of_length_le (by have := HYM.out; omega)] at h2
        have HH := Lib.hid h2
        clear h2 hall
        go_wp2
        go_ret
        exact ⟨ret_bool (by simp [HH.out]), _, rfl⟩
  · obtain ⟨m, hm⟩ : ∃ m, m = ys.length := ⟨_, rfl⟩
    obtain ⟨l, hl⟩ : ∃ l, l = xs.length := ⟨_, rfl⟩
    have HF : Hid (decide (xs = ys) = false) := by
      show _ = _
      rw [decide_eq_false_iff_not]
      intro e
      exact hlen (by rw [e])
    have hb : ((l : Int) != (m : Int)) = true := by rw [bne_iff_ne]; omega
    rw [← hm, ← hl]
    rw [← hl] at hl1 hc1
    rw [← hm] at hl2 hc2
    clear hm hl HS1 HS2 hlen
    go_enter Try.func69, Try.ntmps69
    go_wp2
    go_ret
    exact ⟨ret_bool HF.out.symm, 0, rfl⟩
def sameB (l1 l2 : Int) (s1 s2 : Bool) (xs ys : List (List Nat)) : Bool := decide (l1 = l2) && decide (s1 = s2) && decide (xs = ys)
set_option maxRecDepth 100000 in
set_option maxHeartbeats 8000000 in
theorem same_any (l1 l2 : Int) (s1 s2 : Bool) (v1 v2 : Value) (xs ys : List (List Nat)) (w : World) (h1 : w.rows u32V w.heap.size v1 xs) (h2 : w.rows u32V w.heap.size v2 ys) :
    Calls Try.prog 34 #[.agg #[.int .i64 l1, .bool s1, v1], .agg #[.int .i64 l2, .bool s2, v2]] w fun e w' => e = .returned (.bool (sameB l1 l2 s1 s2 xs ys)) ∧ Below w.heap.size w w' := by
  obtain ⟨W0, hW0⟩ : ∃ W0, W0 = (w.alloc (.cells #[.int .i64 l1, .bool s1, v1] 28)).alloc (.cells #[.int .i64 l2, .bool s2, v2] 28) := ⟨_, rfl⟩
  have hB0 : Below w.heap.size w W0 := by rw [hW0]; exact ((Below.refl _ w).alloc (Nat.le_refl _) _).alloc (by simp) _
  have g1 : W0.heap[w.heap.size]? = some (.cells #[.int .i64 l1, .bool s1, v1] 28) := by
    rw [hW0, Below.heap_alloc _ _ _ (by simp)]; exact alloc_last _ _ rfl
  have g2 : W0.heap[w.heap.size + 1]? = some (.cells #[.int .i64 l2, .bool s2, v2] 28) := by
    rw [hW0]; exact alloc_last _ _ (by simp)
  have HE := Lib.hid (equalF_any v1 v2 xs ys w.heap.size w.heap.size W0 (h1.below hB0) (h2.below hB0))
  obtain ⟨a1, c1, rfl, -⟩ := h1.shape
  obtain ⟨a2, c2, rfl, -⟩ := h2.shape
  obtain ⟨b, hb⟩ : ∃ b, b = decide (xs = ys) := ⟨_, rfl⟩
  obtain ⟨r, hr⟩ : ∃ r, r = sameB l1 l2 s1 s2 xs ys := ⟨_, rfl⟩
  rw [← hb] at HE
  rw [← hr]
  unfold sameB at hr
  rw [← hb] at hr
  obtain ⟨k0, k1, k2, -, -, -⟩ := elem_cells g1
  obtain ⟨j0, j1, j2, -, -, -⟩ := elem_cells g2
  have HW0 := Lib.hid hW0
  have HR := Lib.hid hr
  have HB0 := Lib.hid hB0
  clear h1 h2 hb hr hW0 g1 g2 hB0
  by_cases hl : l1 = l2
  · subst hl
    have t1 : (l1 == l1) = true := by simp
    by_cases hs : s1 = s2
    · subst hs
      have t2 : (s1 == s1) = true := by simp
      obtain rfl : r = b := by rw [HR.out]; simp
      go_enter Try.func34, Try.ntmps34
      go_upto_region 1 with (fail)
      rw [← HW0.out]
      go_wp2_with fail
      (with_reducible refine (HE.out).mono ?_)
      rintro e w1 ⟨rfl, n, rfl⟩
      go_wp2
      go_ret
      exact ⟨rfl, below_drewN HB0.out n⟩
    · have t2 : (s1 == s2) = false := by simpa using hs
      obtain rfl : r = false := by rw [HR.out]; simp [hs]
      go_enter Try.func34, Try.ntmps34
      go_upto_region 1 with (fail)
      rw [← HW0.out]
      go_wp2
      go_ret
      exact ⟨rfl, HB0.out⟩
  · have t1 : (l1 == l2) = false := by simpa using hl
    obtain rfl : r = false := by rw [HR.out]; simp [hl]
    go_enter Try.func34, Try.ntmps34
    go_upto_region 1 with (fail)
    rw [← HW0.out]
    go_wp2
    go_ret
    exact ⟨rfl, HB0.out⟩
end Go.Proofs.Ytkjlfjnncdkmlaa.G

/- Plain: long division by words: a guess of a word of the quotient; a multiple taken away word by word; the divisor added again. -/
namespace Go.Proofs.Ytkjlfjnncdkmlaa
set_option linter.all false
open Go.WideNum
theorem guess_ge {B V U n v1 top : Nat} (hv1 : v1 * B ^ (n + 1) ≤ V) (htop : top = U / B ^ (n + 1)) (hB : 0 < B) (h1 : 0 < v1) : U / V ≤ top / v1 := by
  refine (Nat.le_div_iff_mul_le h1).2 ?_
  rw [htop]
  refine (Nat.le_div_iff_mul_le (Nat.pow_pos hB)).2 ?_
  rw [Nat.mul_assoc]
  exact Nat.le_trans (Nat.mul_le_mul_left _ hv1) (Nat.div_mul_le_self U V)
theorem guess_gt {B V U n v1 v2 top u2 g : Nat} (hB : 0 < B) (hV : V / B ^ n = v1 * B + v2) (hU : U / B ^ n = top * B + u2) (hg : g * v1 ≤ top) (ht : (top - g * v1) * B + u2 < g * v2) : U / V < g := by
  rcases Nat.lt_or_ge (U / V) g with h | h
  · exact h
  · exfalso
    have hp : 0 < B ^ n := Nat.pow_pos hB
    have h1 : g * (V / B ^ n) ≤ U / B ^ n := by
      refine (Nat.le_div_iff_mul_le hp).2 ?_
      rw [Nat.mul_assoc]
      exact Nat.le_trans (Nat.mul_le_mul_left g (Nat.div_mul_le_self V _)) (Nat.le_trans (Nat.mul_le_mul_right V h) (Nat.div_mul_le_self U V))
    rw [hV, hU, Nat.mul_add, ← Nat.mul_assoc] at h1
    have h2 : (top - g * v1) * B + g * v1 * B = top * B := by rw [← Nat.add_mul]; congr 1; omega
    omega
theorem guess_le {B V U n v1 v2 top u2 g : Nat} (hB : 0 < B) (hV0 : 0 < V) (hV : V / B ^ n = v1 * B + v2) (hU : U / B ^ n = top * B + u2) (h1 : 0 < v1) (hgB : g < B) (hg : g * v1 ≤ top) (ht : g * v2 ≤ (top - g * v1) * B + u2) : g ≤ U / V + 1 := by
  rcases Nat.lt_or_ge (U / V + 1) g with h | h
  · exfalso
    have h0 : 0 < g := Nat.lt_of_le_of_lt (Nat.zero_le _) h
    obtain ⟨f, rfl⟩ : ∃ f, g = f + 1 := ⟨g - 1, by omega⟩
    have hp : 0 < B ^ n := Nat.pow_pos hB
    have h2 : (f + 1) * (V / B ^ n) ≤ U / B ^ n := by
      rw [hV, hU, Nat.mul_add, ← Nat.mul_assoc]
      have h2 : (top - (f + 1) * v1) * B + (f + 1) * v1 * B = top * B := by rw [← Nat.add_mul]; congr 1; omega
      omega
    have h3 : U < (U / V + 1) * V := by
      have h4 := Nat.mod_add_div U V
      have h5 := Nat.mod_lt U hV0
      rw [Nat.add_mul, Nat.one_mul, Nat.mul_comm]
      omega
    have h4 : (U / V + 1) * V ≤ f * V := Nat.mul_le_mul_right V (by omega)
    have h5 : V < (V / B ^ n + 1) * B ^ n := by
      have h4 := Nat.mod_add_div V (B ^ n)
      have h5 := Nat.mod_lt V hp
      rw [Nat.add_mul, Nat.one_mul, Nat.mul_comm]
      omega
    have h6 : U / B ^ n * B ^ n ≤ U := Nat.div_mul_le_self _ _
    obtain ⟨D, hD⟩ : ∃ D, D = V / B ^ n := ⟨_, rfl⟩
    obtain ⟨P, hP⟩ : ∃ P, P = B ^ n := ⟨_, rfl⟩
    rw [← hD] at h2 h5 hV
    rw [← hP] at h2 h5 h6 hp
    have hDB : B ≤ D := by
      rw [hV]
      have : 1 * B ≤ v1 * B := Nat.mul_le_mul_right B h1
      omega
    have h7 : f * V ≤ f * ((D + 1) * P) := Nat.mul_le_mul_left f (Nat.le_of_lt h5)
    have h8 : (f + 1) * D * P ≤ U / P * P := Nat.mul_le_mul_right P h2
    have h9 : (f + 1) * D * P < f * ((D + 1) * P) := by omega
    rw [← Nat.mul_assoc] at h9
    have h10 := Nat.lt_of_mul_lt_mul_right h9
    rw [Nat.add_mul, Nat.mul_add] at h10
    omega
  · exact h
theorem guess_rest {B v1 v2 top u2 g : Nat} (h1 : 0 < v1) (hv2 : v2 < B) (htop : top < (v1 + 1) * B) (hg : g * v1 ≤ top) (hr : B ≤ top - g * v1) : g < B ∧ g * v2 ≤ (top - g * v1) * B + u2 := by
  have hgB : g < B := by
    rcases Nat.lt_or_ge g B with h | h
    · exact h
    · exfalso
      have h2 : B * v1 ≤ g * v1 := Nat.mul_le_mul_right v1 h
      rw [Nat.add_mul, Nat.one_mul, Nat.mul_comm v1] at htop
      omega
  refine ⟨hgB, ?_⟩
  have h2 : g * v2 ≤ B * B := Nat.mul_le_mul (Nat.le_of_lt hgB) (Nat.le_of_lt hv2)
  have h3 : B * B ≤ (top - g * v1) * B := Nat.mul_le_mul_right B hr
  omega
def setDig (B T k y : Nat) : Nat := T - dig B T k * B ^ k + y * B ^ k
theorem dig_part (B T k : Nat) : dig B T k * B ^ k ≤ T := by
  have h := Nat.mod_mul_right_div_self T (B ^ k) B
  have h2 : dig B T k = T % (B ^ k * B) / B ^ k := h.symm
  rw [h2]
  exact Nat.le_trans (Nat.div_mul_le_self _ _) (Nat.mod_le _ _)
theorem setDig_eq (B T k y : Nat) : setDig B T k y + dig B T k * B ^ k = T + y * B ^ k := by
  have := dig_part B T k
  unfold setDig
  omega
theorem split3 {B : Nat} (hB : 0 < B) (T k : Nat) : T = T % B ^ k + dig B T k * B ^ k + T / B ^ (k + 1) * B ^ (k + 1) := by
  have h1 := Nat.mod_add_div T (B ^ (k + 1))
  have h2 := mod_pow_succ B T k
  rw [h2, Nat.mul_comm (B ^ k), Nat.mul_comm (B ^ (k + 1))] at h1
  exact h1.symm
theorem setDig_split {B : Nat} (hB : 0 < B) (T k y : Nat) : setDig B T k y = T % B ^ k + y * B ^ k + T / B ^ (k + 1) * B ^ (k + 1) := by
  have h1 := split3 hB T k
  have h2 := setDig_eq B T k y
  omega
theorem three_low {B : Nat} (hB : 0 < B) (l y h k : Nat) (hl : l < B ^ k) (hy : y < B) : (l + y * B ^ k + h * B ^ (k + 1)) % B ^ k = l ∧ (l + y * B ^ k + h * B ^ (k + 1)) / B ^ k = y + h * B := by
  have hp : 0 < B ^ k := Nat.pow_pos hB
  have e : l + y * B ^ k + h * B ^ (k + 1) = l + B ^ k * (y + h * B) := by
    have e1 : h * (B ^ k * B) = B ^ k * (h * B) := by rw [← Nat.mul_assoc, Nat.mul_comm h (B ^ k), Nat.mul_assoc]
    rw [Nat.pow_succ, Nat.mul_add, e1, Nat.mul_comm y]
    omega
  rw [e]
  exact ⟨by rw [Nat.add_mul_mod_self_left, Nat.mod_eq_of_lt hl], by rw [Nat.add_mul_div_left _ _ hp, Nat.div_eq_of_lt hl, Nat.zero_add]⟩
theorem dig_setDig {B : Nat} (hB : 0 < B) (T k y : Nat) (hy : y < B) (i : Nat) : dig B (setDig B T k y) i = if i = k then y else dig B T i := by
  have hp : 0 < B ^ k := Nat.pow_pos hB
  have hl := Nat.mod_lt T hp
  have hd := dig_lt hB T k
  have e1 := setDig_split hB T k y
  have e2 := split3 hB T k
  obtain ⟨a1, a2⟩ := three_low hB (T % B ^ k) y (T / B ^ (k + 1)) k hl hy
  obtain ⟨b1, b2⟩ := three_low hB (T % B ^ k) (dig B T k) (T / B ^ (k + 1)) k hl hd
  rw [← e1] at a1 a2
  rw [← e2] at b2
  rcases Nat.lt_trichotomy i k with h | h | h
  · rw [if_neg (by omega)]
    have e3 : ∀ Z, dig B Z i = dig B (Z % B ^ k) i := by
      intro Z
      unfold dig
      obtain ⟨d, rfl⟩ : ∃ d, k = i + 1 + d := ⟨k - i - 1, by omega⟩
      rw [Nat.pow_add, Nat.pow_succ, Nat.mul_assoc, Nat.mod_mul_right_div_self, Nat.mod_mul_right_mod]
    rw [e3, e3 T, a1]
  · subst h
    rw [if_pos rfl]
    unfold dig
    rw [a2, Nat.add_mul_mod_self_right, Nat.mod_eq_of_lt hy]
  · rw [if_neg (by omega)]
    obtain ⟨d, rfl⟩ : ∃ d, i = k + 1 + d := ⟨i - k - 1, by omega⟩
    have e3 : ∀ Z, dig B Z (k + 1 + d) = Z / B ^ k / B / B ^ d % B := by
      intro Z
      unfold dig
      rw [Nat.pow_add, Nat.pow_succ, Nat.div_div_eq_div_mul, Nat.div_div_eq_div_mul, Nat.mul_assoc]
    rw [e3, e3 T, a2, b2, Nat.add_mul_div_right _ _ hB, Nat.add_mul_div_right _ _ hB, Nat.div_eq_of_lt hy, Nat.div_eq_of_lt hd]
theorem lt_of_digs {B : Nat} (hB : 1 < B) (T K : Nat) (h : ∀ k, K ≤ k → dig B T k = 0) : T < B ^ K := by
  have h1 := words_length (B := B) hB T T (Nat.lt_pow_self hB)
  rcases Nat.lt_or_ge T (B ^ K) with h2 | h2
  · exact h2
  · exfalso
    have h3 := words_lenlt hB T K h2
    obtain ⟨m, hm⟩ : ∃ m, (words B T).length = m + 1 := ⟨(words B T).length - 1, by omega⟩
    have h4 := words_trimmed hB T T (Nat.le_refl _)
    have h5 : (words B T).getLast? = some (dig B T m) := by
      rw [List.getLast?_eq_getElem?, hm, Nat.add_sub_cancel]
      exact words_getE hB T m (by omega)
    exact h4 _ h5 (h m (by omega))
structure SubSt (B V X g j i T b c : Nat) : Prop where
  eq : T + g * (V % B ^ i) * B ^ j = X + (b + c) * B ^ (i + j)
  up : ∀ k, i + j ≤ k → dig B T k = dig B X k
  hb : b ≤ 1
  hc : c < B
theorem SubSt.start {B V X g j : Nat} (hB : 1 < B) : SubSt B V X g j 0 X 0 0 := ⟨by simp [Nat.mod_one], fun _ _ => rfl, by omega, by omega⟩
theorem SubSt.step {B V X g j i T b c lo hi y b' : Nat} (hB : 1 < B) (h : SubSt B V X g j i T b c) (hg : g < B) (hp : g * dig B V i + c = hi * B + lo) (hhi : hi < B) (hy : y < B) (hb' : b' ≤ 1) (hst : y + lo + b = dig B X (i + j) + b' * B) :
    SubSt B V X g j (i + 1) (setDig B T (i + j) y) b' hi := by
  have e1 := setDig_eq B T (i + j) y
  have hu := h.up (i + j) (Nat.le_refl _)
  rw [hu] at e1
  refine ⟨?_, fun k hk => ?_, hb', hhi⟩
  · have e2 := h.eq
    rw [mod_pow_succ, Nat.mul_add, Nat.add_mul, show i + 1 + j = (i + j) + 1 by omega, Nat.pow_succ]
    obtain ⟨P, hP⟩ : ∃ P, P = B ^ (i + j) := ⟨_, rfl⟩
    have e3 : g * (B ^ i * dig B V i) * B ^ j = g * dig B V i * P := by
      rw [hP, Nat.pow_add]; simp only [Nat.mul_assoc, Nat.mul_comm, Nat.mul_left_comm]
    rw [e3]
    rw [← hP] at e1 e2 ⊢
    generalize g * (V % B ^ i) * B ^ j = F at *
    generalize dig B X (i + j) = x at *
    obtain ⟨q, hq⟩ : ∃ q, q = g * dig B V i := ⟨_, rfl⟩
    rw [← hq] at hp ⊢
    have e4 : (y + lo + b) * P = (x + b' * B) * P := by rw [hst]
    have e5 : (q + c) * P = (hi * B + lo) * P := by rw [hp]
    simp only [Nat.add_mul] at e1 e2 e4 e5 ⊢
    rw [show b' * (P * B) = b' * B * P by rw [Nat.mul_assoc, Nat.mul_comm P], show hi * (P * B) = hi * B * P by rw [Nat.mul_assoc, Nat.mul_comm P]]
    omega
  · rw [dig_setDig (by omega) T (i + j) y hy, if_neg (by omega)]
    exact h.up k (by omega)
theorem SubSt.last {B V X g j n T b c y b' : Nat} (hB : 1 < B) (h : SubSt B V X g j n T b c) (hV : V < B ^ n) (hV0 : 0 < V) (hX : X < V * B ^ (j + 1)) (hq : X / B ^ j / V ≤ g) (hq2 : g ≤ X / B ^ j / V + 1) (hy : y < B) (hb' : b' ≤ 1) (hst : y + b + c = dig B X (n + j) + b' * B) :
    (b' = 0 ∧ g = X / B ^ j / V ∧ setDig B T (n + j) y = X - X / B ^ j / V * V * B ^ j) ∨
    (b' = 1 ∧ g = X / B ^ j / V + 1 ∧ setDig B T (n + j) y + g * V * B ^ j = X + B ^ (n + j + 1) ∧ (∀ k, n + j + 1 ≤ k → dig B (setDig B T (n + j) y) k = 0)) := by
  have e1 := setDig_eq B T (n + j) y
  rw [h.up (n + j) (Nat.le_refl _)] at e1
  have e2 := h.eq
  rw [Nat.mod_eq_of_lt hV] at e2
  have hXlt : X < B ^ (n + j + 1) := by
    refine Nat.lt_of_lt_of_le hX ?_
    rw [show n + j + 1 = n + (j + 1) by omega, Nat.pow_add B n (j + 1)]
    exact Nat.mul_le_mul_right _ (Nat.le_of_lt hV)
  have hup : ∀ k, n + j + 1 ≤ k → dig B (setDig B T (n + j) y) k = 0 := fun k hk => by
    rw [dig_setDig (by omega) T (n + j) y hy, if_neg (by omega), h.up k (by omega)]
    exact dig_high hB X k (Nat.lt_of_lt_of_le hXlt (Nat.pow_le_pow_right (by omega) hk))
  have hTlt := lt_of_digs hB _ _ hup
  have e3 : setDig B T (n + j) y + g * V * B ^ j = X + b' * B ^ (n + j + 1) := by
    rw [Nat.pow_succ]
    generalize B ^ (n + j) = P at *
    generalize dig B X (n + j) = x at *
    generalize g * V * B ^ j = F at *
    have e4 : (y + b + c) * P = (x + b' * B) * P := by rw [hst]
    simp only [Nat.add_mul] at e1 e2 e4 ⊢
    rw [show b' * (P * B) = b' * B * P by rw [Nat.mul_assoc, Nat.mul_comm P]]
    omega
  have hj : 0 < B ^ j := Nat.pow_pos (by omega)
  have hqX : X / B ^ j / V * V * B ^ j ≤ X := Nat.le_trans (Nat.mul_le_mul_right _ (Nat.div_mul_le_self _ _)) (Nat.div_mul_le_self _ _)
  have hqX2 : X < (X / B ^ j / V + 1) * V * B ^ j := by
    have h1 := Nat.mod_add_div (X / B ^ j) V
    have h2 := Nat.mod_lt (X / B ^ j) hV0
    have h3 : X / B ^ j + 1 ≤ (X / B ^ j / V + 1) * V := by rw [Nat.add_mul, Nat.one_mul, Nat.mul_comm]; omega
    have h4 : (X / B ^ j + 1) * B ^ j ≤ (X / B ^ j / V + 1) * V * B ^ j := Nat.mul_le_mul_right _ h3
    have h5 := Nat.mod_add_div X (B ^ j)
    have h6 := Nat.mod_lt X hj
    rw [Nat.add_mul, Nat.one_mul, Nat.mul_comm (X / B ^ j)] at h4
    omega
  obtain ⟨q, hqq⟩ : ∃ q, q = X / B ^ j / V := ⟨_, rfl⟩
  rw [← hqq] at hq hq2 hqX hqX2 ⊢
  rcases (show b' = 0 ∨ b' = 1 by omega) with rfl | rfl
  · left
    have hgq : g = q := by
      rcases (show g = q ∨ g = q + 1 by omega) with h | h
      · exact h
      · rw [h] at e3; omega
    subst hgq
    exact ⟨rfl, rfl, by omega⟩
  · right
    rw [Nat.one_mul] at e3
    have hgq : g = q + 1 := by
      rcases (show g = q ∨ g = q + 1 by omega) with h | h
      · rw [h] at e3; omega
      · exact h
    exact ⟨rfl, hgq, e3, hup⟩
structure AddSt (B V Y j i T c : Nat) : Prop where
  eq : T + c * B ^ (i + j) = Y + V % B ^ i * B ^ j
  up : ∀ k, i + j ≤ k → dig B T k = dig B Y k
  hc : c ≤ 1
theorem AddSt.start {B V Y j : Nat} : AddSt B V Y j 0 Y 0 := ⟨by simp [Nat.mod_one], fun _ _ => rfl, by omega⟩
theorem AddSt.step {B V Y j i T c y c' : Nat} (hB : 1 < B) (h : AddSt B V Y j i T c) (hy : y < B) (hc' : c' ≤ 1) (hst : c + (dig B Y (i + j) + dig B V i) = y + c' * B) : AddSt B V Y j (i + 1) (setDig B T (i + j) y) c' := by
  have e1 := setDig_eq B T (i + j) y
  rw [h.up (i + j) (Nat.le_refl _)] at e1
  refine ⟨?_, fun k hk => ?_, hc'⟩
  · have e2 := h.eq
    rw [mod_pow_succ, Nat.add_mul, show i + 1 + j = (i + j) + 1 by omega, Nat.pow_succ]
    obtain ⟨P, hP⟩ : ∃ P, P = B ^ (i + j) := ⟨_, rfl⟩
    have e3 : B ^ i * dig B V i * B ^ j = dig B V i * P := by
      rw [hP, Nat.pow_add]; simp only [Nat.mul_assoc, Nat.mul_comm, Nat.mul_left_comm]
    rw [e3]
    rw [← hP] at e1 e2 ⊢
    generalize V % B ^ i * B ^ j = F at *
    generalize dig B Y (i + j) = x at *
    generalize dig B V i = v at *
    have e4 : (c + (x + v)) * P = (y + c' * B) * P := by rw [hst]
    simp only [Nat.add_mul] at e1 e2 e4 ⊢
    rw [show c' * (P * B) = c' * B * P by rw [Nat.mul_assoc, Nat.mul_comm P]]
    omega
  · rw [dig_setDig (by omega) T (i + j) y hy, if_neg (by omega)]
    exact h.up k (by omega)
theorem AddSt.last {B V Y R j n T c : Nat} (hB : 1 < B) (h : AddSt B V Y j n T c) (hV : V < B ^ n) (hR : R < V * B ^ j) (hY : Y + V * B ^ j = R + B ^ (n + j + 1)) (hup : ∀ k, n + j + 1 ≤ k → dig B Y k = 0) :
    setDig B T (n + j) ((dig B Y (n + j) + c) % B) = R := by
  have e2 := h.eq
  rw [Nat.mod_eq_of_lt hV] at e2
  have hp : 0 < B ^ (n + j) := Nat.pow_pos (by omega)
  have hRlt : R < B ^ (n + j) := by
    refine Nat.lt_of_lt_of_le hR ?_
    rw [Nat.pow_add]
    exact Nat.mul_le_mul_right _ (Nat.le_of_lt hV)
  have hT := split3 (B := B) (by omega) T (n + j)
  have hTlt := lt_of_digs hB T (n + j + 1) (fun k hk => by rw [h.up k (by omega), hup k hk])
  rw [Nat.div_eq_of_lt hTlt, Nat.zero_mul, Nat.add_zero] at hT
  have hl := Nat.mod_lt T hp
  have hx := h.up (n + j) (Nat.le_refl _)
  have hsd := setDig_split (B := B) (by omega) T (n + j) ((dig B Y (n + j) + c) % B)
  rw [Nat.div_eq_of_lt hTlt, Nat.zero_mul, Nat.add_zero] at hsd
  rw [hsd]
  rw [hx] at hT
  obtain ⟨x, ex⟩ : ∃ x, x = dig B Y (n + j) := ⟨_, rfl⟩
  obtain ⟨l, el⟩ : ∃ l, l = T % B ^ (n + j) := ⟨_, rfl⟩
  rw [← ex] at hT ⊢
  rw [← el] at hT hl ⊢
  rw [Nat.pow_succ] at hY
  generalize B ^ (n + j) = P at *
  have h1 : l + (x + c) * P = R + B * P := by
    rw [Nat.add_mul, Nat.mul_comm B]
    omega
  have h2 : (l + (x + c) * P) / P = (R + B * P) / P := by rw [h1]
  rw [Nat.add_mul_div_right _ _ hp, Nat.add_mul_div_right _ _ hp, Nat.div_eq_of_lt hl, Nat.div_eq_of_lt hRlt] at h2
  have h3 : x + c = B := by omega
  rw [h3] at h1 ⊢
  rw [Nat.mod_self, Nat.zero_mul]
  omega
theorem quot_word {B A V j : Nat} (hB : 0 < B) (hV0 : 0 < V) : A % (V * B ^ (j + 1)) / B ^ j / V = dig B (A / V) j ∧ A % (V * B ^ (j + 1)) - A % (V * B ^ (j + 1)) / B ^ j / V * V * B ^ j = A % (V * B ^ j) := by
  obtain ⟨X, hX⟩ : ∃ X, X = A % (V * B ^ (j + 1)) := ⟨_, rfl⟩
  have h1 : X / B ^ j / V = X / (V * B ^ j) := by rw [Nat.div_div_eq_div_mul, Nat.mul_comm]
  have h2 : V * B ^ (j + 1) = V * B ^ j * B := by rw [Nat.pow_succ, Nat.mul_assoc]
  rw [← hX, h1]
  have h3 : X / (V * B ^ j) = dig B (A / V) j := by
    rw [hX, h2, Nat.mod_mul_right_div_self]
    unfold dig
    rw [Nat.div_div_eq_div_mul]
  refine ⟨h3, ?_⟩
  have h4 : X % (V * B ^ j) = A % (V * B ^ j) := by rw [hX, h2, Nat.mod_mul_right_mod]
  have h5 := Nat.mod_add_div X (V * B ^ j)
  rw [Nat.mul_assoc, ← h4]
  rw [Nat.mul_comm (V * B ^ j)] at h5
  omega
end Go.Proofs.Ytkjlfjnncdkmlaa

/- Walks: a number shifted to the right by less than a word. -/
namespace Go.Proofs.Ytkjlfjnncdkmlaa
set_option linter.all false
open Go.RowKit Go.Shelf Go.WideNum
theorem right_dig (A s i : Nat) (hs : s < 32) : (dig 4294967296 A i + dig 4294967296 A (i + 1) * 2 ^ 32) / 2 ^ s % 4294967296 = dig 4294967296 (A / 2 ^ s) i := by
  obtain ⟨d, hd⟩ : ∃ d, (4294967296 : Nat) = 2 ^ s * d := ⟨2 ^ (32 - s), by rw [← Nat.pow_add, show s + (32 - s) = 32 by omega]⟩
  have hp : 0 < 2 ^ s := Nat.pow_pos (by omega)
  unfold dig
  rw [Nat.pow_succ, ← Nat.div_div_eq_div_mul A, Nat.div_div_eq_div_mul A (2 ^ s), Nat.mul_comm (2 ^ s), ← Nat.div_div_eq_div_mul A]
  obtain ⟨Y, hY⟩ : ∃ Y, Y = A / 4294967296 ^ i := ⟨_, rfl⟩
  rw [← hY]
  have h1 := Nat.mod_add_div Y 4294967296
  have h2 := Nat.mod_add_div (Y / 4294967296) 4294967296
  obtain ⟨K, hK⟩ : ∃ K, K = Y / 4294967296 / 4294967296 := ⟨_, rfl⟩
  obtain ⟨Z, hZ⟩ : ∃ Z, Z = Y % 4294967296 + Y / 4294967296 % 4294967296 * 2 ^ 32 := ⟨_, rfl⟩
  have h3 : Y = Z + 2 ^ s * (d * 4294967296 * K) := by
    have e : 2 ^ s * (d * 4294967296 * K) = 4294967296 * 4294967296 * K := by
      rw [← Nat.mul_assoc, ← Nat.mul_assoc, ← hd]
    rw [e, hZ, hK]
    omega
  have h4 : Y / 2 ^ s = Z / 2 ^ s + d * 4294967296 * K := by
    rw [h3, Nat.add_mul_div_left _ _ hp]
  rw [h4, show d * 4294967296 * K = 4294967296 * (d * K) by rw [Nat.mul_comm d, Nat.mul_assoc], Nat.add_mul_mod_self_left, ← hZ]
set_option maxRecDepth 100000 in
set_option maxHeartbeats 4000000 in
theorem right_any (A s : Nat) (hs : s < 32) (va : Value) (w : World) (hA : World.numR w va A) (hla : (wd A).length ≤ 2000) :
    Calls Try.prog 132 #[va, .int .i64 (s : Int)] w (NumRet w (A / 2 ^ s)) := by
  obtain ⟨aa, ca, rfl, hca, hma, hsa⟩ := reads_u32 hA
  clear hA
  have hz0 := words_len0 (B := 4294967296) (by omega) A
  obtain ⟨p, hp⟩ : ∃ n, n = (wd A).length := ⟨_, rfl⟩
  have hva := wd_vlt A
  have hzp : p = 0 ↔ A = 0 := by rw [hp]; exact hz0
  rw [← hp] at hla hca hva ⊢
  have HA : Hid (∀ k, k < p → ∃ b off, aa = some ⟨b, off, none⟩ ∧ b < w.heap.size ∧ w.cell? ⟨b, off + k, none⟩ = some (.int .u32 (dig 4294967296 A k : Int))) := fun k hk => hsa k _ (wd_get _ k (by omega))
  have HHI : Hid (∀ k, p ≤ k → dig 4294967296 A k = 0) := fun k hk => wd_high A k (by omega)
  have HVA := Lib.hid hva
  have HZP := Lib.hid hzp
  clear hp hsa hva hz0 hzp
  obtain ⟨M, hM⟩ : ∃ M, M = A / 2 ^ s := ⟨_, rfl⟩
  rw [← hM]
  have HM := Lib.hid hM
  have HDG : Hid (∀ i, (dig 4294967296 A i + dig 4294967296 A (i + 1) * 2 ^ 32) / 2 ^ s % 4294967296 = dig 4294967296 M i) := fun i => by rw [HM.out]; exact right_dig A s i hs
  clear hM
  obtain ⟨HPOST, hpost⟩ : ∃ R, R = NumRet w M := ⟨_, rfl⟩
  rw [← hpost]
  have HP := Lib.hid hpost
  clear hpost
  have e1 : (s : Int) / 32 = 0 := by omega
  have e2 : (s : Int) % 32 = (s : Int) := by omega
  by_cases hp0 : p = 0
  · subst hp0
    have hA0 := HZP.out.1 rfl
    subst hA0
    have hM0 : M = 0 := by rw [HM.out]; exact Nat.zero_div _
    subst hM0
    go_enter Try.func132, Try.ntmps132
    go_wp2
    rw [HP.out]
    exact ⟨_, rfl, World.owns_nil _ _ _ _, Below.refl _ _⟩
  · have hp1 : ¬ (p : Int) ≤ 0 := by omega
    have hp2 : (0 : Int) < (p : Int) := by omega
    have hmk : ∀ W : World, (Instr.makeSlice 117 (.int .i64 (p : Int)) (.int .i64 (p : Int))).run Try.prog W = .ok (.slice (some ⟨W.heap.size, 0, none⟩) p p) (W.alloc (.cells (zrow p) 22)) := fun W => make_nat p (by omega) W
    clear HZP
    go_enter Try.func132, Try.ntmps132
    go_wp2_with fail
    go_loopw [22] (fun iv wr => ∃ k : Nat, k ≤ p ∧ iv = .int .i64 (k : Int) ∧ wr.heap[w.heap.size]? = some (.cells (fillTo (dig 4294967296 M) p k) 22) ∧ Below w.heap.size w wr) (fun iv _ => p - (intOf iv).toNat)
    case atStart => exact ⟨0, Nat.zero_le _, rfl, by rw [fillTo_zero]; exact heap_alloc_new w _, (Below.refl _ w).alloc (Nat.le_refl _) _⟩
    case round =>
      obtain ⟨k, hk, rfl, hgk, hb⟩ := hrel
      by_cases hlt : k < p
      · obtain ⟨b, off, rfl, hbl, hx0⟩ := HA.out k hlt
        have hx : wr.cell? ⟨b, off + k, none⟩ = some (.int .u32 (dig 4294967296 A k : Int)) := (hb.cell (p := ⟨b, off + k, none⟩) hbl).trans hx0
        obtain ⟨u, hcu, hfu⟩ := fill_cell hgk (by omega)
        have hdg := HDG.out k
        have hd1 := wd_dig A k
        have hd2 := wd_dig A (k + 1)
        have hd3 := wd_dig M k
        obtain ⟨x, ex⟩ : ∃ x, x = dig 4294967296 A k := ⟨_, rfl⟩
        obtain ⟨y, ey⟩ : ∃ x, x = dig 4294967296 A (k + 1) := ⟨_, rfl⟩
        obtain ⟨z, ez⟩ : ∃ x, x = dig 4294967296 M k := ⟨_, rfl⟩
        rw [← ex, ← ey, ← ez] at hdg
        rw [← ex] at hx hd1
        rw [← ey] at hd2
        rw [← ez] at hd3
        have EY := Lib.hid ey
        have EZ := Lib.hid ez
        have HGK := Lib.hid hgk
        clear ex hx0 hgk
        have hp2s : 0 < 2 ^ s := Nat.pow_pos (by omega)
        by_cases hk1 : k + 1 < p
        · obtain ⟨b2, off2, hb2, hbl2, hy0⟩ := HA.out (k + 1) hk1
          injection hb2 with hb2
          injection hb2 with hb2 hb3
          subst hb2 hb3
          have hy : wr.cell? ⟨b, off + (k + 1), none⟩ = some (.int .u32 (y : Int)) := (hb.cell (p := ⟨b, off + (k + 1), none⟩) hbl2).trans (by rw [hy0, EY.out])
          have hor := or_hi .u64 (Or.inl rfl) 32 y x hd1 (by simp only [if_true]; omega)
          obtain ⟨Y, eY⟩ : ∃ Y, Y = x + y * 2 ^ 32 := ⟨_, rfl⟩
          rw [← eY] at hor hdg
          have hor2 : bits .or .u64 (x : Int) ((y : Int) * 4294967296) = (Y : Int) := by rw [← hor]; congr 1
          have hY : Y < 18446744073709551616 := by rw [eY]; omega
          have t1 : (Y : Int) / 2 ^ s % 4294967296 = (z : Int) := by rw [← hdg]; simp
          have hk1' : (k : Int) + 1 < (p : Int) := by omega
          clear hor ey ez eY hy0 hdg
          go_wp2
          go_roundw
          case rel => exact ⟨k + 1, by omega, by go_num, by rw [EZ.out]; exact fill_set HGK.out, hb.setCell (by simp) _⟩
          case measure => simp [intOf]; omega
        · have hy0 : y = 0 := by rw [EY.out]; exact HHI.out (k + 1) (by omega)
          rw [hy0, Nat.zero_mul, Nat.add_zero] at hdg
          have t1 : (x : Int) / 2 ^ s % 4294967296 = (z : Int) := by rw [← hdg]; simp
          have hk1' : ¬ (k : Int) + 1 < (p : Int) := by omega
          clear ey ez hy0 hdg
          go_wp2
          go_roundw
          case rel => exact ⟨k + 1, by omega, by go_num, by rw [EZ.out]; exact fill_set HGK.out, hb.setCell (by simp) _⟩
          case measure => simp [intOf]; omega
      · obtain rfl : k = p := by omega
        obtain ⟨R, HR⟩ : ∃ R, Hid (R = (trimL ((List.range k).map (dig 4294967296 M))).length) := ⟨_, rfl⟩
        have HGK := Lib.hid hgk
        clear hgk
        go_wp2_with fail
        (with_reducible refine (norm_row _ _ _ R HR _ _ HGK.out (by omega)).mono ?_)
        rintro e w2 ⟨rfl, rfl⟩
        go_wp2
        rw [HP.out]
        exact num_ret HR HGK.out hb (Nat.le_refl _) (by omega) (Nat.lt_of_le_of_lt (by rw [HM.out]; exact Nat.div_le_self _ _) HVA.out)
end Go.Proofs.Ytkjlfjnncdkmlaa

/- Wide integers: helpers and walks, in one text (XR1 XR2 XR3 XR4 XR5). -/
/- The reference's numbers: words of 16 bits: compared, their sum, their difference. -/
namespace Go.Proofs.Ytkjlfjnncdkmlaa
set_option linter.all false
open Go.RowKit Go.Shelf Go.WideNum
abbrev World.numH (w : World) (v : Value) (n : Nat) : Prop := w.reads w.heap.size v ((hw n).map u32V)
abbrev World.rawH (w : World) (v : Value) (n L : Nat) : Prop := w.reads w.heap.size v (((List.range L).map (dig 65536 n)).map u32V)
theorem hw_range (n : Nat) : (List.range (hw n).length).map (dig 65536 n) = hw n := by
  apply List.ext_getElem?
  intro i
  rcases Nat.lt_or_ge i (hw n).length with h | h
  · rw [hw_get n i h]; simp [h]
  · rw [List.getElem?_eq_none (by simpa using h), List.getElem?_eq_none h]
theorem numH_below {w w' : World} {v : Value} {n : Nat} (h : World.numH w v n) (hb : Below w.heap.size w w') : World.numH w' v n := (World.reads.below h hb).mono hb.size
theorem rawH_below {w w' : World} {v : Value} {n L : Nat} (h : World.rawH w v n L) (hb : Below w.heap.size w w') : World.rawH w' v n L := (World.reads.below h hb).mono hb.size
theorem numH_raw {w : World} {v : Value} {n : Nat} (h : World.numH w v n) : World.rawH w v n (hw n).length := by
  show w.reads _ _ _
  rw [hw_range]; exact h
theorem rawH_num {w : World} {v : Value} {n L : Nat} (h : World.rawH w v n L) (hL : L = (hw n).length) : World.numH w v n := by
  subst hL
  have h : w.reads _ _ _ := h
  rw [hw_range] at h; exact h
theorem hw_len_ge {n k : Nat} (h : k < (hw n).length) : 65536 ^ k ≤ n := by
  rcases Nat.lt_or_ge n (65536 ^ k) with h1 | h1
  · have := words_length (B := 65536) (by omega) n k h1
    unfold hw at h; omega
  · exact h1
theorem hw_len_le {n k : Nat} (h : n < 65536 ^ k) : (hw n).length ≤ k := words_length (by omega) n k h
theorem numH_words {w : World} {v : Value} {n : Nat} (h : World.numH w v n) : ∃ (a : Option Addr) (p c : Nat), p = (hw n).length ∧ v = .slice a p c ∧ p ≤ c ∧ c ≤ maxLen ∧
    ∀ k, k < p → ∃ b off, a = some ⟨b, off, none⟩ ∧ b < w.heap.size ∧ w.cell? ⟨b, off + k, none⟩ = some (.int .u32 (dig 65536 n k : Int)) := by
  obtain ⟨a, c, rfl, hc, hm, hs⟩ := reads_u32 h
  exact ⟨a, _, c, rfl, rfl, hc, hm, fun k hk => hs k _ (hw_get n k hk)⟩
theorem owns_nil (w : World) (base : Nat) (T : TypeId) : w.owns base T 1 (.slice none 0 0) 0 [] := ⟨rfl, .inl ⟨rfl, rfl⟩⟩
end Go.Proofs.Ytkjlfjnncdkmlaa

/- The reference's numbers: sums and differences. -/

/- The reference's numbers with signs: without zeros at the end. -/
namespace Go.Proofs.Ytkjlfjnncdkmlaa
set_option linter.all false
open Go.RowKit Go.Shelf Go.WideNum
def SRet (w : World) (s : Bool) (n : Nat) (e : Ending) (w' : World) : Prop := ∃ v, e = .returned (.agg #[.bool s, v]) ∧ World.numH w' v n ∧ Below w.heap.size w w'
def SRetO (w : World) (s : Bool) (n : Nat) (e : Ending) (w' : World) : Prop := ∃ v, e = .returned (.agg #[.bool s, v]) ∧ w'.owns w.heap.size 22 1 v (hw n).length ((hw n).map u32V) ∧ Below w.heap.size w w'
theorem SRetO.ret {w w' : World} {s : Bool} {n : Nat} {e : Ending} (h : SRetO w s n e w') : SRet w s n e w' := by
  obtain ⟨v, h1, h2, h3⟩ := h
  exact ⟨v, h1, h2.reads, h3⟩
theorem num_cells {W : World} {g : Nat} {s : Bool} {v : Value} {T : TypeId} (h : W.heap[g]? = some (.cells #[.bool s, v] T)) :
    W.cell? ⟨g, 0, none⟩ = some (.bool s) ∧ W.cell? ⟨g, 1, none⟩ = some v ∧ W.frozen? ⟨g, 0, none⟩ = false ∧ W.frozen? ⟨g, 1, none⟩ = false := by
  refine ⟨by rw [cell_of_row W g 0 _ T (0, 0) h]; rfl, by rw [cell_of_row W g 1 _ T (0, 0) h]; rfl, by simp [World.frozen?, h], by simp [World.frozen?, h]⟩
theorem num_set {W : World} {g : Nat} {u0 u1 : Value} {T : TypeId} (h : W.heap[g]? = some (.cells #[u0, u1] T)) (x y : Value) :
    ((W.setCell ⟨g, 0, none⟩ x).setCell ⟨g, 1, none⟩ y).heap[g]? = some (.cells #[x, y] T) := by
  simp [World.setCell, Array.getElem?_modify, h]
def noInt (cs : Array Value) : Prop := ∀ u ∈ cs, ∀ z, u ≠ .int .u32 z
theorem reads_other {W W' : World} {B p : Nat} {v : Value} {l : List Nat} {cs : Array Value} {T : TypeId} (h : W.reads B v (l.map u32V)) (hp : W.heap[p]? = some (.cells cs T)) (hcs : noInt cs) (hW : ∀ b, b ≠ p → W'.heap[b]? = W.heap[b]?) : W'.reads B v (l.map u32V) := by
  obtain ⟨a, cap, hv, hn, hz, hmx, hc⟩ := h
  refine ⟨a, cap, hv, hn, hz, hmx, fun j u hj => ?_⟩
  obtain ⟨b, off, ha, hB, hcell⟩ := hc j u hj
  refine ⟨b, off, ha, hB, ?_⟩
  have hne : b ≠ p := by
    rintro rfl
    rw [cell_of_row W _ _ _ _ (0, 0) hp] at hcell
    obtain ⟨z, _, rfl⟩ := List.mem_map.1 (List.mem_of_getElem? hj)
    exact hcs _ (Array.mem_of_getElem? hcell) _ rfl
  exact (World.cell?_of_block (a := ⟨b, off + j, none⟩) (hW b hne)).trans hcell
theorem noInt_num (s : Bool) (a : Option Addr) (n c : Nat) : noInt #[.bool s, .slice a n c] := by
  intro u hu z e
  subst e
  simp at hu
theorem two_other {W : World} {p : Nat} (x y : Value) : ∀ b, b ≠ p → ((W.setCell ⟨p, 0, none⟩ x).setCell ⟨p, 1, none⟩ y).heap[b]? = W.heap[b]? := by
  intro b h
  simp [World.setCell, Array.getElem?_modify, h, h.symm, Ne.symm h]
theorem numH_set {W : World} {p n : Nat} {v : Value} {s : Bool} {a : Option Addr} {k c : Nat} {T : TypeId} (h : World.numH W v n) (hp : W.heap[p]? = some (.cells #[.bool s, .slice a k c] T)) (x y : Value) :
    World.numH ((W.setCell ⟨p, 0, none⟩ x).setCell ⟨p, 1, none⟩ y) v n := by
  have h1 := reads_other h hp (noInt_num s a k c) (two_other x y)
  have e : ((W.setCell ⟨p, 0, none⟩ x).setCell ⟨p, 1, none⟩ y).heap.size = W.heap.size := by simp
  show World.reads _ _ _ _
  rw [e]; exact h1
theorem rawH_words {w : World} {v : Value} {n L : Nat} (h : World.rawH w v n L) : ∃ (a : Option Addr) (c : Nat), v = .slice a L c ∧ L ≤ c ∧ c ≤ maxLen ∧
    ∀ k, k < L → ∃ b off, a = some ⟨b, off, none⟩ ∧ b < w.heap.size ∧ w.cell? ⟨b, off + k, none⟩ = some (.int .u32 (dig 65536 n k : Int)) := by
  have h : w.reads _ _ _ := h
  obtain ⟨a, c, rfl, hc, hm, hs⟩ := reads_u32 h
  simp only [List.length_map, List.length_range] at hc ⊢
  exact ⟨a, c, rfl, hc, hm, fun k hk => hs k _ (by simp [hk])⟩
theorem hw_top {n k : Nat} (h : (hw n).length = k + 1) : dig 65536 n k ≠ 0 := by
  have h1 := words_trimmed (B := 65536) (by omega) n n (Nat.le_refl _)
  have h2 : (hw n).getLast? = some (dig 65536 n k) := by
    rw [List.getLast?_eq_getElem?, h, Nat.add_sub_cancel]
    exact hw_get n k (by omega)
  exact h1 _ h2
theorem rawH_take {w : World} {a : Option Addr} {n L c M : Nat} (h : World.rawH w (.slice a L c) n L) (hM : M = (hw n).length) (hML : M ≤ L) : World.numH w (.slice a M c) n := by
  subst hM
  obtain ⟨a', c', e, hn, hc, hm, hs⟩ := h
  injection e with e1 _ e3
  subst e1 e3
  simp only [List.length_map, List.length_range] at hc
  refine ⟨a, c, by simp, hn, by simp; omega, hm, fun j u hj => ?_⟩
  rw [List.getElem?_map] at hj
  rcases Nat.lt_or_ge j (hw n).length with h1 | h1
  · rw [hw_get n j h1] at hj
    refine hs j u ?_
    rw [List.getElem?_map, List.getElem?_map, List.getElem?_range (by omega)]
    exact hj
  · rw [List.getElem?_eq_none h1] at hj; cases hj
set_option maxRecDepth 100000 in
set_option maxHeartbeats 8000000 in
theorem htrim_own (s : Bool) (n L : Nat) (hn : n < 65536 ^ L) (hL : L ≤ 10000) (v : Value) (w : World) (hv : World.rawH w v n L) :
    Calls Try.prog 92 #[.agg #[.bool s, v]] w (SRetO w (s && decide (n ≠ 0)) n) := by
  obtain ⟨i0, hi0, hiz, hiz1, hizb⟩ := info_parts infoU32
  have HV : Hid (World.rawH w v n L) := hv
  obtain ⟨a, c, rfl, hc, hm, hs⟩ := rawH_words hv
  clear hv
  have hM := hw_len_le hn
  have hZ : decide (n ≠ 0) = decide (0 < (hw n).length) := by
    have := words_len0 (B := 65536) (by omega) n
    unfold hw
    congr 1
    apply propext
    omega
  rw [hZ]
  obtain ⟨M, eM⟩ : ∃ M, M = (hw n).length := ⟨_, rfl⟩
  rw [← eM] at hM ⊢
  have HE := Lib.hid eM
  have HS := Lib.hid hs
  obtain ⟨S, hS⟩ : ∃ S, S = (s && decide (0 < M)) := ⟨_, rfl⟩
  rw [← hS]
  have HSS := Lib.hid hS
  have hc' : (L : Int) ≤ (c : Int) := by omega
  have HMX := Lib.hid hm
  clear hS hs hZ eM hn hc hm
  obtain ⟨HPOST, hpost⟩ : ∃ R, R = SRetO w S n := ⟨_, rfl⟩
  rw [← hpost]
  have HP := Lib.hid hpost
  clear hpost
  obtain ⟨W0, hW0⟩ : ∃ W0, W0 = (w.alloc (.cells #[.bool s, .slice a L c] 77)).alloc (.cells #[.bool false, .slice none 0 0] 77) := ⟨_, rfl⟩
  have g0 : W0.heap[w.heap.size]? = some (.cells #[.bool s, .slice a L c] 77) := by rw [hW0, Below.heap_alloc _ _ _ (by simp)]; exact heap_alloc_new w _
  have g1 : W0.heap[w.heap.size + 1]? = some (.cells #[.bool false, .slice none 0 0] 77) := by rw [hW0]; exact alloc_last _ _ (by simp)
  have hb0 : Below w.heap.size w W0 := by rw [hW0]; exact (((Below.refl _ w).alloc (Nat.le_refl _) _).alloc (by simp) _)
  have hz0 : W0.heap.size = w.heap.size + 1 + 1 := by rw [hW0]; simp
  have HB0 := Lib.hid hb0
  have HG1 := Lib.hid g1
  obtain ⟨c00, c01, f00, f01⟩ := num_cells g0
  have HZ0 := Lib.hid hz0
  have HW0 := Lib.hid hW0
  clear hb0 g0 g1 hz0 hW0
  go_enter Try.func92, Try.ntmps92
  go_upto_region 1 with (fail)
  rw [← HW0.out]
  go_wp2_with fail
  go_loop [3] (fun kv => ∃ k : Nat, M ≤ k ∧ k ≤ L ∧ kv = .int .i64 (k : Int)) (fun kv => (intOf kv).toNat)
  case atStart => exact ⟨L, hM, Nat.le_refl _, rfl⟩
  case round =>
    obtain ⟨k, hk1, hk2, rfl⟩ := hrel
    by_cases hlt : M < k
    · obtain ⟨j, rfl⟩ : ∃ j, k = j + 1 := ⟨k - 1, by omega⟩
      have hz : dig 65536 n j = 0 := hw_high n j (by rw [← HE.out]; omega)
      obtain ⟨b, off, rfl, hbl, hx0⟩ := HS.out j (by omega)
      rw [hz] at hx0
      have hx : W0.cell? ⟨b, off + j, none⟩ = some (.int .u32 0) := (HB0.out.cell (p := ⟨b, off + j, none⟩) hbl).trans hx0
      clear hx0 hz
      go_wp2_with fail
      go_round
      case rel => exact ⟨j, by omega, by omega, by go_num⟩
      case measure => simp [intOf]
    · obtain rfl : k = M := by omega
      have hpost2 : Hid (∀ (v' : Value) (w5 : World), w5.owns w.heap.size 22 1 v' (0 + ((hw n).map u32V).length) ([] ++ (hw n).map u32V) → World.numH w5 v' n) := fun v' w5 h => by
        have := h.reads
        rwa [List.nil_append] at this
      have hread : Hid (∀ W : World, Below w.heap.size w W → World.numH W (.slice a k c) n) := fun W hb => numH_below (rawH_take HV.out HE.out hk2) hb
      have hstop : k = 0 ∨ ∃ (j x b off : Nat), k = j + 1 ∧ x ≠ 0 ∧ a = some ⟨b, off, none⟩ ∧ W0.cell? ⟨b, off + j, none⟩ = some (.int .u32 (x : Int)) := by
        rcases Nat.eq_zero_or_pos k with h0 | h0
        · exact .inl h0
        · obtain ⟨j, rfl⟩ : ∃ j, k = j + 1 := ⟨k - 1, by omega⟩
          obtain ⟨b, off, e1, hbl, hx0⟩ := HS.out j (by omega)
          exact .inr ⟨j, _, b, off, rfl, hw_top HE.out.symm, e1, (HB0.out.cell (p := ⟨b, off + j, none⟩) hbl).trans hx0⟩
      have hz2 := HZ0.out
      have hk0 : (0 : Int) ≤ (k : Int) := by omega
      have hkc : (k : Int) ≤ (c : Int) := by omega
      have hwz : w.heap.size < W0.heap.size := by omega
      have HO : Hid ((W0.alloc (.cells #[] 22)).drew.owns W0.heap.size 22 1 (.slice (some ⟨W0.heap.size, 0, none⟩) 0 0) 0 []) := ⟨rfl, .inr ⟨W0.heap.size, 0, #[], (0, 0), rfl, Nat.le_refl _, heap_alloc_new W0 _, okFz_zero _, Nat.le_refl _, Nat.zero_le _, rfl, rfl⟩⟩
      have HBD : Hid (Below W0.heap.size W0 (W0.alloc (.cells #[] 22)).drew) := ((Below.refl W0.heap.size W0).alloc (Nat.le_refl _) _).drew
      have HBA : Hid (Below w.heap.size w (W0.alloc (.cells #[] 22)).drew) := (HB0.out.alloc (by omega) _).drew
      have HBS : Hid (W0.heap.size ≤ (W0.alloc (.cells #[] 22)).drew.heap.size) := HBD.out.size
      have HK0 := Lib.hid (HBD.out.cell (p := ⟨w.heap.size, 0, none⟩) hwz)
      have HK1 := Lib.hid (HBD.out.cell (p := ⟨w.heap.size, 1, none⟩) hwz)
      have HL1 : Hid (0 + ((hw n).map u32V).length ≤ maxLen) := by show _ ≤ _; rw [List.length_map, ← HE.out]; unfold maxLen; omega
      have HL2 : Hid ((0 + ((hw n).map u32V).length) * 4 ≤ 140737488355328) := by show _ ≤ _; rw [List.length_map, ← HE.out]; omega
      have HR := hread
      have HF : Hid (∀ (v' : Value) (w6 : World), w6.owns W0.heap.size 22 1 v' (0 + ((hw n).map u32V).length) ([] ++ (hw n).map u32V) → World.grownBy (W0.alloc (.cells #[] 22)).drew w6 (Value.slice (some ⟨W0.heap.size, 0, none⟩) 0 0).ownBlock →
          ∃ a6 n6 c6, v' = .slice a6 n6 c6 ∧ Below w.heap.size w w6 ∧ w6.owns W0.heap.size 22 1 v' (hw n).length ((hw n).map u32V) ∧ w6.cell? ⟨w.heap.size, 0, none⟩ = W0.cell? ⟨w.heap.size, 0, none⟩ ∧ w6.cell? ⟨w.heap.size, 1, none⟩ = W0.cell? ⟨w.heap.size, 1, none⟩ ∧ w6.heap[w.heap.size + 1]? = some (.cells #[.bool false, .slice none 0 0] 77)) := by
        intro v' w6 ho hg
        have hb := HBD.out.trans (below_grown HO.out hg W0.heap.size (Nat.le_refl _) HBS.out)
        have hr : w6.owns W0.heap.size 22 1 v' (hw n).length ((hw n).map u32V) := by
          rw [List.nil_append, List.length_map, Nat.zero_add] at ho
          exact ho
        obtain ⟨a6, c6, e6⟩ := reads_len hr.reads
        exact ⟨a6, _, c6, e6, HB0.out.trans (hb.mono (by omega)), hr, hb.cell (p := ⟨w.heap.size, 0, none⟩) hwz, hb.cell (p := ⟨w.heap.size, 1, none⟩) hwz, (hb.block _ (by omega)).trans HG1.out⟩
      have HZ1 : Hid (w.heap.size + 1 < W0.heap.size) := by show _ < _; omega
      have HZ2 : Hid (w.heap.size ≤ W0.heap.size) := by show _ ≤ _; omega
      clear hread hz2 hwz
      rcases hstop with h0 | ⟨j, x, b, off, hj, hx, rfl, hcell⟩
      · subst h0
        have hSt : Hid (S = false) := by show _ = _; rw [HSS.out]; simp
        have t0 : ¬ (0 : Int) < ((0 : Nat) : Int) := by omega
        clear hk1
        go_wp2_with fail
        cases s with
        | true =>
          refine wp_region_line (fun w' => w'.cell? ⟨w.heap.size, 0, none⟩ = some (.bool true) ∧ w'.cell? ⟨w.heap.size, 1, none⟩ = some (.slice a L c)) 13 (by kernel_rfl) ⟨c00, c01⟩ (fun hHeld => ?_)
          refine wpAnyT_take 0 (v := ?_) (by kernel_rfl) rfl (by kernel_rfl) (by decide) rfl (by kernel_rfl) (by kernel_rfl) (fun _ _ _ h => h) (Or.inl ⟨by rfl, ?_⟩) (by assumption) ?_
          rotate_left
          · (intro wq hSq; (try dsimp only at hSq); go_simp; try with_reducible rfl)
          try simp only [Act.put, List.setIfInBounds_toArray, List.set_cons_zero, List.set_cons_succ]
          refine wpAnyT_take 1 (v := ?_) (by kernel_rfl) rfl (by kernel_rfl) (by decide) rfl (by kernel_rfl) (by kernel_rfl) (fun _ _ _ h => h) (Or.inl ⟨by rfl, ?_⟩) (by assumption) ?_
          rotate_left
          · (intro wq hSq; (try dsimp only at hSq); go_simp; try with_reducible rfl)
          try simp only [Act.put, List.setIfInBounds_toArray, List.set_cons_zero, List.set_cons_succ]
          refine wpAnyT_take 2 (v := ?_) (by kernel_rfl) rfl (by kernel_rfl) (by decide) rfl (by kernel_rfl) (by kernel_rfl) (fun _ _ _ h => h) (Or.inl ⟨by rfl, ?_⟩) (by assumption) ?_
          rotate_left
          · (intro wq hSq; (try dsimp only at hSq); go_simp; try with_reducible rfl)
          try simp only [Act.put, List.setIfInBounds_toArray, List.set_cons_zero, List.set_cons_succ]
          refine wpAnyT_take 3 (v := ?_) (by kernel_rfl) rfl (by kernel_rfl) (by decide) rfl (by kernel_rfl) (by kernel_rfl) (fun _ _ _ h => h) (Or.inl ⟨by rfl, ?_⟩) (by assumption) ?_
          rotate_left
          · (intro wq hSq; (try dsimp only at hSq); go_simp; try with_reducible rfl)
          try simp only [Act.put, List.setIfInBounds_toArray, List.set_cons_zero, List.set_cons_succ]
          refine wpAnyT_take 4 (v := ?_) (by kernel_rfl) rfl (by kernel_rfl) (by decide) rfl (by kernel_rfl) (by kernel_rfl) (fun _ _ _ h => h) (Or.inl ⟨by rfl, ?_⟩) (by assumption) ?_
          rotate_left
          · (intro wq hSq; (try dsimp only at hSq); go_simp; try with_reducible rfl)
          try simp only [Act.put, List.setIfInBounds_toArray, List.set_cons_zero, List.set_cons_succ]
          refine wpAnyT_take 5 (v := ?_) (by kernel_rfl) rfl (by kernel_rfl) (by decide) rfl (by kernel_rfl) (by kernel_rfl) (fun _ _ _ h => h) (Or.inl ⟨by rfl, ?_⟩) (by assumption) ?_
          rotate_left
          · (intro wq hSq; (try dsimp only at hSq); go_simp; try with_reducible rfl)
          try simp only [Act.put, List.setIfInBounds_toArray, List.set_cons_zero, List.set_cons_succ]
          refine wpAnyT_take 7 (v := ?_) (by kernel_rfl) rfl (by kernel_rfl) (by decide) rfl (by kernel_rfl) (by kernel_rfl) (fun _ _ _ h => h) (Or.inl ⟨by rfl, ?_⟩) (by assumption) ?_
          rotate_left
          · (intro wq hSq; (try dsimp only at hSq); go_simp; try with_reducible rfl)
          try simp only [Act.put, List.setIfInBounds_toArray, List.set_cons_zero, List.set_cons_succ]
          refine wpAnyT_take 8 (v := ?_) (by kernel_rfl) rfl (by kernel_rfl) (by decide) rfl (by kernel_rfl) (by kernel_rfl) (fun _ _ _ h => h) (Or.inl ⟨by rfl, ?_⟩) (by assumption) ?_
          rotate_left
          · (intro wq hSq; (try dsimp only at hSq); go_simp; try with_reducible rfl)
          try simp only [Act.put, List.setIfInBounds_toArray, List.set_cons_zero, List.set_cons_succ]
          refine wpAnyT_take 9 (v := ?_) (by kernel_rfl) rfl (by kernel_rfl) (by decide) rfl (by kernel_rfl) (by kernel_rfl) (fun _ _ _ h => h) (Or.inl ⟨by rfl, ?_⟩) (by assumption) ?_
          rotate_left
          · (intro wq hSq; (try dsimp only at hSq); go_simp; try with_reducible rfl)
          try simp only [Act.put, List.setIfInBounds_toArray, List.set_cons_zero, List.set_cons_succ]
          refine wpAnyT_take 10 (v := ?_) (by kernel_rfl) rfl (by kernel_rfl) (by decide) rfl (by kernel_rfl) (by kernel_rfl) (fun _ _ _ h => h) (Or.inl ⟨by rfl, ?_⟩) (by assumption) ?_
          rotate_left
          · (intro wq hSq; (try dsimp only at hSq); go_simp; try with_reducible rfl)
          try simp only [Act.put, List.setIfInBounds_toArray, List.set_cons_zero, List.set_cons_succ]
          refine wpAnyT_step 6 (by kernel_rfl) rfl (fun K hK => ?_)
          go_simp
          refine hK.out _ _ ⟨HK0.out.trans c00, HK1.out.trans c01⟩ (fun hHeld2 => ?_)
          clear hK K hHeld
          try simp only [Act.put, List.setIfInBounds_toArray, List.set_cons_zero, List.set_cons_succ]
          refine wpAnyT_step 11 (by kernel_rfl) rfl (fun K hK => ?_)
          refine step_append_reads (by rfl) (.tmp 26) (.tmp 30) 23 (by rfl) W0.heap.size 22 i0 (.int .u32 0) 4 Try.underlying23 hi0 hiz hiz1 hizb rfl (.slice (some ⟨W0.heap.size, 0, none⟩) 0 0) 0 [] (by rfl) HO.out _ (.slice a 0 c) ((hw n).map u32V) (by rfl) (HR.out _ HBA.out) (one_u32 _) HL1.out HL2.out HBS.out ?_
          intro v6 w6 hown6 hg6
          obtain ⟨a6, n6, c6, rfl, hb6, hn6, hk0, hk1, hg16⟩ := HF.out v6 w6 hown6 hg6
          clear hown6 hg6
          refine hK.out _ _ ⟨hk0.trans c00, hk1.trans c01⟩ (fun hHeld3 => ?_)
          have HB6 := Lib.hid hb6
          have HN6 := Lib.hid hn6
          have HG6 := Lib.hid hg16
          clear hb6 hn6 hg16 hk0 hk1
          clear hK K hHeld2
          try simp only [Act.put, List.setIfInBounds_toArray, List.set_cons_zero, List.set_cons_succ]
          refine wpAnyT_take 12 (v := ?_) (by kernel_rfl) rfl (by kernel_rfl) (by decide) rfl (by kernel_rfl) (by kernel_rfl) (fun _ _ _ h => h) (Or.inl ⟨by rfl, ?_⟩) (by assumption) ?_
          rotate_left
          · (intro wq hSq; (try dsimp only at hSq); go_simp; try with_reducible rfl)
          try simp only [Act.put, List.setIfInBounds_toArray, List.set_cons_zero, List.set_cons_succ]
          refine wpAnyT_last (by kernel_rfl) (by kernel_rfl) rfl (fun K hK => ?_)
          obtain ⟨d0, d1, fz0, fz1⟩ := num_cells HG6.out
          go_simp
          refine hK.out _ _ ?_
          clear hK K hHeld3 d0 d1 fz0 fz1
          have m2 := num_set HG6.out (.bool false) (.slice a6 n6 c6)
          have hb9 : Below w.heap.size w ((w6.setCell ⟨w.heap.size + 1, 0, none⟩ (.bool false)).setCell ⟨w.heap.size + 1, 1, none⟩ (.slice a6 n6 c6)) := (HB6.out.setCell (by simp) _).setCell (by simp) _
          have hn9 : World.owns ((w6.setCell ⟨w.heap.size + 1, 0, none⟩ (.bool false)).setCell ⟨w.heap.size + 1, 1, none⟩ (.slice a6 n6 c6)) w.heap.size 22 1 (.slice a6 n6 c6) (hw n).length ((hw n).map u32V) := ((World.owns.setCell HN6.out HZ1.out _).setCell HZ1.out _).mono HZ2.out
          obtain ⟨d20, d21, -, -⟩ := num_cells m2
          clear m2
          generalize (w6.setCell ⟨w.heap.size + 1, 0, none⟩ (.bool false)).setCell ⟨w.heap.size + 1, 1, none⟩ (.slice a6 n6 c6) = W9 at d20 d21 hb9 hn9 ⊢
          have HB9 := Lib.hid hb9
          have HN9 := Lib.hid hn9
          clear hb9 hn9
          go_wp2
          rw [HP.out]
          exact bodyPost_ret (v := .agg #[.bool false, .slice a6 n6 c6]) (by simp [results, Try.results92, go_sem, d20, d21]) rfl ⟨.slice a6 n6 c6, by rw [hSt.out], HN9.out, HB9.out⟩
        | false =>
          refine wp_region_line (fun w' => w'.cell? ⟨w.heap.size, 0, none⟩ = some (.bool false) ∧ w'.cell? ⟨w.heap.size, 1, none⟩ = some (.slice a L c)) 13 (by kernel_rfl) ⟨c00, c01⟩ (fun hHeld => ?_)
          refine wpAnyT_take 0 (v := ?_) (by kernel_rfl) rfl (by kernel_rfl) (by decide) rfl (by kernel_rfl) (by kernel_rfl) (fun _ _ _ h => h) (Or.inl ⟨by rfl, ?_⟩) (by assumption) ?_
          rotate_left
          · (intro wq hSq; (try dsimp only at hSq); go_simp; try with_reducible rfl)
          try simp only [Act.put, List.setIfInBounds_toArray, List.set_cons_zero, List.set_cons_succ]
          refine wpAnyT_take 1 (v := ?_) (by kernel_rfl) rfl (by kernel_rfl) (by decide) rfl (by kernel_rfl) (by kernel_rfl) (fun _ _ _ h => h) (Or.inl ⟨by rfl, ?_⟩) (by assumption) ?_
          rotate_left
          · (intro wq hSq; (try dsimp only at hSq); go_simp; try with_reducible rfl)
          try simp only [Act.put, List.setIfInBounds_toArray, List.set_cons_zero, List.set_cons_succ]
          refine wpAnyT_take 2 (v := ?_) (by kernel_rfl) rfl (by kernel_rfl) (by decide) rfl (by kernel_rfl) (by kernel_rfl) (fun _ _ _ h => h) (Or.inl ⟨by rfl, ?_⟩) (by assumption) ?_
          rotate_left
          · (intro wq hSq; (try dsimp only at hSq); go_simp; try with_reducible rfl)
          try simp only [Act.put, List.setIfInBounds_toArray, List.set_cons_zero, List.set_cons_succ]
          refine wpAnyT_take 3 (v := undef) (by kernel_rfl) rfl (by kernel_rfl) (by decide) rfl (by kernel_rfl) (by kernel_rfl) (fun _ _ _ h => h) (Or.inr ⟨by rfl, rfl⟩) (by assumption) ?_
          try simp only [Act.put, List.setIfInBounds_toArray, List.set_cons_zero, List.set_cons_succ]
          refine wpAnyT_take 4 (v := undef) (by kernel_rfl) rfl (by kernel_rfl) (by decide) rfl (by kernel_rfl) (by kernel_rfl) (fun _ _ _ h => h) (Or.inr ⟨by rfl, rfl⟩) (by assumption) ?_
          try simp only [Act.put, List.setIfInBounds_toArray, List.set_cons_zero, List.set_cons_succ]
          refine wpAnyT_take 5 (v := ?_) (by kernel_rfl) rfl (by kernel_rfl) (by decide) rfl (by kernel_rfl) (by kernel_rfl) (fun _ _ _ h => h) (Or.inl ⟨by rfl, ?_⟩) (by assumption) ?_
          rotate_left
          · (intro wq hSq; (try dsimp only at hSq); go_simp; try with_reducible rfl)
          try simp only [Act.put, List.setIfInBounds_toArray, List.set_cons_zero, List.set_cons_succ]
          refine wpAnyT_take 7 (v := ?_) (by kernel_rfl) rfl (by kernel_rfl) (by decide) rfl (by kernel_rfl) (by kernel_rfl) (fun _ _ _ h => h) (Or.inl ⟨by rfl, ?_⟩) (by assumption) ?_
          rotate_left
          · (intro wq hSq; (try dsimp only at hSq); go_simp; try with_reducible rfl)
          try simp only [Act.put, List.setIfInBounds_toArray, List.set_cons_zero, List.set_cons_succ]
          refine wpAnyT_take 8 (v := ?_) (by kernel_rfl) rfl (by kernel_rfl) (by decide) rfl (by kernel_rfl) (by kernel_rfl) (fun _ _ _ h => h) (Or.inl ⟨by rfl, ?_⟩) (by assumption) ?_
          rotate_left
          · (intro wq hSq; (try dsimp only at hSq); go_simp; try with_reducible rfl)
          try simp only [Act.put, List.setIfInBounds_toArray, List.set_cons_zero, List.set_cons_succ]
          refine wpAnyT_take 9 (v := ?_) (by kernel_rfl) rfl (by kernel_rfl) (by decide) rfl (by kernel_rfl) (by kernel_rfl) (fun _ _ _ h => h) (Or.inl ⟨by rfl, ?_⟩) (by assumption) ?_
          rotate_left
          · (intro wq hSq; (try dsimp only at hSq); go_simp; try with_reducible rfl)
          try simp only [Act.put, List.setIfInBounds_toArray, List.set_cons_zero, List.set_cons_succ]
          refine wpAnyT_take 10 (v := ?_) (by kernel_rfl) rfl (by kernel_rfl) (by decide) rfl (by kernel_rfl) (by kernel_rfl) (fun _ _ _ h => h) (Or.inl ⟨by rfl, ?_⟩) (by assumption) ?_
          rotate_left
          · (intro wq hSq; (try dsimp only at hSq); go_simp; try with_reducible rfl)
          try simp only [Act.put, List.setIfInBounds_toArray, List.set_cons_zero, List.set_cons_succ]
          refine wpAnyT_step 6 (by kernel_rfl) rfl (fun K hK => ?_)
          go_simp
          refine hK.out _ _ ⟨HK0.out.trans c00, HK1.out.trans c01⟩ (fun hHeld2 => ?_)
          clear hK K hHeld
          try simp only [Act.put, List.setIfInBounds_toArray, List.set_cons_zero, List.set_cons_succ]
          refine wpAnyT_step 11 (by kernel_rfl) rfl (fun K hK => ?_)
          refine step_append_reads (by rfl) (.tmp 26) (.tmp 30) 23 (by rfl) W0.heap.size 22 i0 (.int .u32 0) 4 Try.underlying23 hi0 hiz hiz1 hizb rfl (.slice (some ⟨W0.heap.size, 0, none⟩) 0 0) 0 [] (by rfl) HO.out _ (.slice a 0 c) ((hw n).map u32V) (by rfl) (HR.out _ HBA.out) (one_u32 _) HL1.out HL2.out HBS.out ?_
          intro v6 w6 hown6 hg6
          obtain ⟨a6, n6, c6, rfl, hb6, hn6, hk0, hk1, hg16⟩ := HF.out v6 w6 hown6 hg6
          clear hown6 hg6
          refine hK.out _ _ ⟨hk0.trans c00, hk1.trans c01⟩ (fun hHeld3 => ?_)
          have HB6 := Lib.hid hb6
          have HN6 := Lib.hid hn6
          have HG6 := Lib.hid hg16
          clear hb6 hn6 hg16 hk0 hk1
          clear hK K hHeld2
          try simp only [Act.put, List.setIfInBounds_toArray, List.set_cons_zero, List.set_cons_succ]
          refine wpAnyT_take 12 (v := ?_) (by kernel_rfl) rfl (by kernel_rfl) (by decide) rfl (by kernel_rfl) (by kernel_rfl) (fun _ _ _ h => h) (Or.inl ⟨by rfl, ?_⟩) (by assumption) ?_
          rotate_left
          · (intro wq hSq; (try dsimp only at hSq); go_simp; try with_reducible rfl)
          try simp only [Act.put, List.setIfInBounds_toArray, List.set_cons_zero, List.set_cons_succ]
          refine wpAnyT_last (by kernel_rfl) (by kernel_rfl) rfl (fun K hK => ?_)
          obtain ⟨d0, d1, fz0, fz1⟩ := num_cells HG6.out
          go_simp
          refine hK.out _ _ ?_
          clear hK K hHeld3 d0 d1 fz0 fz1
          have m2 := num_set HG6.out (.bool false) (.slice a6 n6 c6)
          have hb9 : Below w.heap.size w ((w6.setCell ⟨w.heap.size + 1, 0, none⟩ (.bool false)).setCell ⟨w.heap.size + 1, 1, none⟩ (.slice a6 n6 c6)) := (HB6.out.setCell (by simp) _).setCell (by simp) _
          have hn9 : World.owns ((w6.setCell ⟨w.heap.size + 1, 0, none⟩ (.bool false)).setCell ⟨w.heap.size + 1, 1, none⟩ (.slice a6 n6 c6)) w.heap.size 22 1 (.slice a6 n6 c6) (hw n).length ((hw n).map u32V) := ((World.owns.setCell HN6.out HZ1.out _).setCell HZ1.out _).mono HZ2.out
          obtain ⟨d20, d21, -, -⟩ := num_cells m2
          clear m2
          generalize (w6.setCell ⟨w.heap.size + 1, 0, none⟩ (.bool false)).setCell ⟨w.heap.size + 1, 1, none⟩ (.slice a6 n6 c6) = W9 at d20 d21 hb9 hn9 ⊢
          have HB9 := Lib.hid hb9
          have HN9 := Lib.hid hn9
          clear hb9 hn9
          go_wp2
          rw [HP.out]
          exact bodyPost_ret (v := .agg #[.bool false, .slice a6 n6 c6]) (by simp [results, Try.results92, go_sem, d20, d21]) rfl ⟨.slice a6 n6 c6, by rw [hSt.out], HN9.out, HB9.out⟩
      · have t0 : (0 : Int) < (k : Int) := by omega
        have t1 : ((x : Int) == 0) = false := by rw [beq_eq_false_iff_ne]; omega
        have hj2 : (k : Int) - 1 = (j : Int) := by omega
        have hjL : j < L := by omega
        have hSt : Hid (S = s) := by show _ = _; rw [HSS.out, decide_eq_true (by omega), Bool.and_true]
        clear hx hj hk1
        go_wp2_with fail
        cases s with
        | true =>
          refine wp_region_line (fun w' => w'.cell? ⟨w.heap.size, 0, none⟩ = some (.bool true) ∧ w'.cell? ⟨w.heap.size, 1, none⟩ = some (.slice (some ⟨b, off, none⟩) L c)) 13 (by kernel_rfl) ⟨c00, c01⟩ (fun hHeld => ?_)
          refine wpAnyT_take 0 (v := ?_) (by kernel_rfl) rfl (by kernel_rfl) (by decide) rfl (by kernel_rfl) (by kernel_rfl) (fun _ _ _ h => h) (Or.inl ⟨by rfl, ?_⟩) (by assumption) ?_
          rotate_left
          · (intro wq hSq; (try dsimp only at hSq); go_simp; try with_reducible rfl)
          try simp only [Act.put, List.setIfInBounds_toArray, List.set_cons_zero, List.set_cons_succ]
          refine wpAnyT_take 1 (v := ?_) (by kernel_rfl) rfl (by kernel_rfl) (by decide) rfl (by kernel_rfl) (by kernel_rfl) (fun _ _ _ h => h) (Or.inl ⟨by rfl, ?_⟩) (by assumption) ?_
          rotate_left
          · (intro wq hSq; (try dsimp only at hSq); go_simp; try with_reducible rfl)
          try simp only [Act.put, List.setIfInBounds_toArray, List.set_cons_zero, List.set_cons_succ]
          refine wpAnyT_take 2 (v := ?_) (by kernel_rfl) rfl (by kernel_rfl) (by decide) rfl (by kernel_rfl) (by kernel_rfl) (fun _ _ _ h => h) (Or.inl ⟨by rfl, ?_⟩) (by assumption) ?_
          rotate_left
          · (intro wq hSq; (try dsimp only at hSq); go_simp; try with_reducible rfl)
          try simp only [Act.put, List.setIfInBounds_toArray, List.set_cons_zero, List.set_cons_succ]
          refine wpAnyT_take 3 (v := ?_) (by kernel_rfl) rfl (by kernel_rfl) (by decide) rfl (by kernel_rfl) (by kernel_rfl) (fun _ _ _ h => h) (Or.inl ⟨by rfl, ?_⟩) (by assumption) ?_
          rotate_left
          · (intro wq hSq; (try dsimp only at hSq); go_simp; try with_reducible rfl)
          try simp only [Act.put, List.setIfInBounds_toArray, List.set_cons_zero, List.set_cons_succ]
          refine wpAnyT_take 4 (v := ?_) (by kernel_rfl) rfl (by kernel_rfl) (by decide) rfl (by kernel_rfl) (by kernel_rfl) (fun _ _ _ h => h) (Or.inl ⟨by rfl, ?_⟩) (by assumption) ?_
          rotate_left
          · (intro wq hSq; (try dsimp only at hSq); go_simp; try with_reducible rfl)
          try simp only [Act.put, List.setIfInBounds_toArray, List.set_cons_zero, List.set_cons_succ]
          refine wpAnyT_take 5 (v := ?_) (by kernel_rfl) rfl (by kernel_rfl) (by decide) rfl (by kernel_rfl) (by kernel_rfl) (fun _ _ _ h => h) (Or.inl ⟨by rfl, ?_⟩) (by assumption) ?_
          rotate_left
          · (intro wq hSq; (try dsimp only at hSq); go_simp; try with_reducible rfl)
          try simp only [Act.put, List.setIfInBounds_toArray, List.set_cons_zero, List.set_cons_succ]
          refine wpAnyT_take 7 (v := ?_) (by kernel_rfl) rfl (by kernel_rfl) (by decide) rfl (by kernel_rfl) (by kernel_rfl) (fun _ _ _ h => h) (Or.inl ⟨by rfl, ?_⟩) (by assumption) ?_
          rotate_left
          · (intro wq hSq; (try dsimp only at hSq); go_simp; try with_reducible rfl)
          try simp only [Act.put, List.setIfInBounds_toArray, List.set_cons_zero, List.set_cons_succ]
          refine wpAnyT_take 8 (v := ?_) (by kernel_rfl) rfl (by kernel_rfl) (by decide) rfl (by kernel_rfl) (by kernel_rfl) (fun _ _ _ h => h) (Or.inl ⟨by rfl, ?_⟩) (by assumption) ?_
          rotate_left
          · (intro wq hSq; (try dsimp only at hSq); go_simp; try with_reducible rfl)
          try simp only [Act.put, List.setIfInBounds_toArray, List.set_cons_zero, List.set_cons_succ]
          refine wpAnyT_take 9 (v := ?_) (by kernel_rfl) rfl (by kernel_rfl) (by decide) rfl (by kernel_rfl) (by kernel_rfl) (fun _ _ _ h => h) (Or.inl ⟨by rfl, ?_⟩) (by assumption) ?_
          rotate_left
          · (intro wq hSq; (try dsimp only at hSq); go_simp; try with_reducible rfl)
          try simp only [Act.put, List.setIfInBounds_toArray, List.set_cons_zero, List.set_cons_succ]
          refine wpAnyT_take 10 (v := ?_) (by kernel_rfl) rfl (by kernel_rfl) (by decide) rfl (by kernel_rfl) (by kernel_rfl) (fun _ _ _ h => h) (Or.inl ⟨by rfl, ?_⟩) (by assumption) ?_
          rotate_left
          · (intro wq hSq; (try dsimp only at hSq); go_simp; try with_reducible rfl)
          try simp only [Act.put, List.setIfInBounds_toArray, List.set_cons_zero, List.set_cons_succ]
          refine wpAnyT_step 6 (by kernel_rfl) rfl (fun K hK => ?_)
          go_simp
          refine hK.out _ _ ⟨HK0.out.trans c00, HK1.out.trans c01⟩ (fun hHeld2 => ?_)
          clear hK K hHeld
          try simp only [Act.put, List.setIfInBounds_toArray, List.set_cons_zero, List.set_cons_succ]
          refine wpAnyT_step 11 (by kernel_rfl) rfl (fun K hK => ?_)
          refine step_append_reads (by rfl) (.tmp 26) (.tmp 30) 23 (by rfl) W0.heap.size 22 i0 (.int .u32 0) 4 Try.underlying23 hi0 hiz hiz1 hizb rfl (.slice (some ⟨W0.heap.size, 0, none⟩) 0 0) 0 [] (by rfl) HO.out _ (.slice (some ⟨b, off, none⟩) k c) ((hw n).map u32V) (by rfl) (HR.out _ HBA.out) (one_u32 _) HL1.out HL2.out HBS.out ?_
          intro v6 w6 hown6 hg6
          obtain ⟨a6, n6, c6, rfl, hb6, hn6, hk0, hk1, hg16⟩ := HF.out v6 w6 hown6 hg6
          clear hown6 hg6
          refine hK.out _ _ ⟨hk0.trans c00, hk1.trans c01⟩ (fun hHeld3 => ?_)
          have HB6 := Lib.hid hb6
          have HN6 := Lib.hid hn6
          have HG6 := Lib.hid hg16
          clear hb6 hn6 hg16 hk0 hk1
          clear hK K hHeld2
          try simp only [Act.put, List.setIfInBounds_toArray, List.set_cons_zero, List.set_cons_succ]
          refine wpAnyT_take 12 (v := ?_) (by kernel_rfl) rfl (by kernel_rfl) (by decide) rfl (by kernel_rfl) (by kernel_rfl) (fun _ _ _ h => h) (Or.inl ⟨by rfl, ?_⟩) (by assumption) ?_
          rotate_left
          · (intro wq hSq; (try dsimp only at hSq); go_simp; try with_reducible rfl)
          try simp only [Act.put, List.setIfInBounds_toArray, List.set_cons_zero, List.set_cons_succ]
          refine wpAnyT_last (by kernel_rfl) (by kernel_rfl) rfl (fun K hK => ?_)
          obtain ⟨d0, d1, fz0, fz1⟩ := num_cells HG6.out
          go_simp
          refine hK.out _ _ ?_
          clear hK K hHeld3 d0 d1 fz0 fz1
          have m2 := num_set HG6.out (.bool true) (.slice a6 n6 c6)
          have hb9 : Below w.heap.size w ((w6.setCell ⟨w.heap.size + 1, 0, none⟩ (.bool true)).setCell ⟨w.heap.size + 1, 1, none⟩ (.slice a6 n6 c6)) := (HB6.out.setCell (by simp) _).setCell (by simp) _
          have hn9 : World.owns ((w6.setCell ⟨w.heap.size + 1, 0, none⟩ (.bool true)).setCell ⟨w.heap.size + 1, 1, none⟩ (.slice a6 n6 c6)) w.heap.size 22 1 (.slice a6 n6 c6) (hw n).length ((hw n).map u32V) := ((World.owns.setCell HN6.out HZ1.out _).setCell HZ1.out _).mono HZ2.out
          obtain ⟨d20, d21, -, -⟩ := num_cells m2
          clear m2
          generalize (w6.setCell ⟨w.heap.size + 1, 0, none⟩ (.bool true)).setCell ⟨w.heap.size + 1, 1, none⟩ (.slice a6 n6 c6) = W9 at d20 d21 hb9 hn9 ⊢
          have HB9 := Lib.hid hb9
          have HN9 := Lib.hid hn9
          clear hb9 hn9
          go_wp2
          rw [HP.out]
          exact bodyPost_ret (v := .agg #[.bool true, .slice a6 n6 c6]) (by simp [results, Try.results92, go_sem, d20, d21]) rfl ⟨.slice a6 n6 c6, by rw [hSt.out], HN9.out, HB9.out⟩
        | false =>
          refine wp_region_line (fun w' => w'.cell? ⟨w.heap.size, 0, none⟩ = some (.bool false) ∧ w'.cell? ⟨w.heap.size, 1, none⟩ = some (.slice (some ⟨b, off, none⟩) L c)) 13 (by kernel_rfl) ⟨c00, c01⟩ (fun hHeld => ?_)
          refine wpAnyT_take 0 (v := ?_) (by kernel_rfl) rfl (by kernel_rfl) (by decide) rfl (by kernel_rfl) (by kernel_rfl) (fun _ _ _ h => h) (Or.inl ⟨by rfl, ?_⟩) (by assumption) ?_
          rotate_left
          · (intro wq hSq; (try dsimp only at hSq); go_simp; try with_reducible rfl)
          try simp only [Act.put, List.setIfInBounds_toArray, List.set_cons_zero, List.set_cons_succ]
          refine wpAnyT_take 1 (v := ?_) (by kernel_rfl) rfl (by kernel_rfl) (by decide) rfl (by kernel_rfl) (by kernel_rfl) (fun _ _ _ h => h) (Or.inl ⟨by rfl, ?_⟩) (by assumption) ?_
          rotate_left
          · (intro wq hSq; (try dsimp only at hSq); go_simp; try with_reducible rfl)
          try simp only [Act.put, List.setIfInBounds_toArray, List.set_cons_zero, List.set_cons_succ]
          refine wpAnyT_take 2 (v := ?_) (by kernel_rfl) rfl (by kernel_rfl) (by decide) rfl (by kernel_rfl) (by kernel_rfl) (fun _ _ _ h => h) (Or.inl ⟨by rfl, ?_⟩) (by assumption) ?_
          rotate_left
          · (intro wq hSq; (try dsimp only at hSq); go_simp; try with_reducible rfl)
          try simp only [Act.put, List.setIfInBounds_toArray, List.set_cons_zero, List.set_cons_succ]
          refine wpAnyT_take 3 (v := undef) (by kernel_rfl) rfl (by kernel_rfl) (by decide) rfl (by kernel_rfl) (by kernel_rfl) (fun _ _ _ h => h) (Or.inr ⟨by rfl, rfl⟩) (by assumption) ?_
          try simp only [Act.put, List.setIfInBounds_toArray, List.set_cons_zero, List.set_cons_succ]
          refine wpAnyT_take 4 (v := undef) (by kernel_rfl) rfl (by kernel_rfl) (by decide) rfl (by kernel_rfl) (by kernel_rfl) (fun _ _ _ h => h) (Or.inr ⟨by rfl, rfl⟩) (by assumption) ?_
          try simp only [Act.put, List.setIfInBounds_toArray, List.set_cons_zero, List.set_cons_succ]
          refine wpAnyT_take 5 (v := ?_) (by kernel_rfl) rfl (by kernel_rfl) (by decide) rfl (by kernel_rfl) (by kernel_rfl) (fun _ _ _ h => h) (Or.inl ⟨by rfl, ?_⟩) (by assumption) ?_
          rotate_left
          · (intro wq hSq; (try dsimp only at hSq); go_simp; try with_reducible rfl)
          try simp only [Act.put, List.setIfInBounds_toArray, List.set_cons_zero, List.set_cons_succ]
          refine wpAnyT_take 7 (v := ?_) (by kernel_rfl) rfl (by kernel_rfl) (by decide) rfl (by kernel_rfl) (by kernel_rfl) (fun _ _ _ h => h) (Or.inl ⟨by rfl, ?_⟩) (by assumption) ?_
          rotate_left
          · (intro wq hSq; (try dsimp only at hSq); go_simp; try with_reducible rfl)
          try simp only [Act.put, List.setIfInBounds_toArray, List.set_cons_zero, List.set_cons_succ]
          refine wpAnyT_take 8 (v := ?_) (by kernel_rfl) rfl (by kernel_rfl) (by decide) rfl (by kernel_rfl) (by kernel_rfl) (fun _ _ _ h => h) (Or.inl ⟨by rfl, ?_⟩) (by assumption) ?_
          rotate_left
          · (intro wq hSq; (try dsimp only at hSq); go_simp; try with_reducible rfl)
          try simp only [Act.put, List.setIfInBounds_toArray, List.set_cons_zero, List.set_cons_succ]
          refine wpAnyT_take 9 (v := ?_) (by kernel_rfl) rfl (by kernel_rfl) (by decide) rfl (by kernel_rfl) (by kernel_rfl) (fun _ _ _ h => h) (Or.inl ⟨by rfl, ?_⟩) (by assumption) ?_
          rotate_left
          · (intro wq hSq; (try dsimp only at hSq); go_simp; try with_reducible rfl)
          try simp only [Act.put, List.setIfInBounds_toArray, List.set_cons_zero, List.set_cons_succ]
          refine wpAnyT_take 10 (v := ?_) (by kernel_rfl) rfl (by kernel_rfl) (by decide) rfl (by kernel_rfl) (by kernel_rfl) (fun _ _ _ h => h) (Or.inl ⟨by rfl, ?_⟩) (by assumption) ?_
          rotate_left
          · (intro wq hSq; (try dsimp only at hSq); go_simp; try with_reducible rfl)
          try simp only [Act.put, List.setIfInBounds_toArray, List.set_cons_zero, List.set_cons_succ]
          refine wpAnyT_step 6 (by kernel_rfl) rfl (fun K hK => ?_)
          go_simp
          refine hK.out _ _ ⟨HK0.out.trans c00, HK1.out.trans c01⟩ (fun hHeld2 => ?_)
          clear hK K hHeld
          try simp only [Act.put, List.setIfInBounds_toArray, List.set_cons_zero, List.set_cons_succ]
          refine wpAnyT_step 11 (by kernel_rfl) rfl (fun K hK => ?_)
          refine step_append_reads (by rfl) (.tmp 26) (.tmp 30) 23 (by rfl) W0.heap.size 22 i0 (.int .u32 0) 4 Try.underlying23 hi0 hiz hiz1 hizb rfl (.slice (some ⟨W0.heap.size, 0, none⟩) 0 0) 0 [] (by rfl) HO.out _ (.slice (some ⟨b, off, none⟩) k c) ((hw n).map u32V) (by rfl) (HR.out _ HBA.out) (one_u32 _) HL1.out HL2.out HBS.out ?_
          intro v6 w6 hown6 hg6
          obtain ⟨a6, n6, c6, rfl, hb6, hn6, hk0, hk1, hg16⟩ := HF.out v6 w6 hown6 hg6
          clear hown6 hg6
          refine hK.out _ _ ⟨hk0.trans c00, hk1.trans c01⟩ (fun hHeld3 => ?_)
          have HB6 := Lib.hid hb6
          have HN6 := Lib.hid hn6
          have HG6 := Lib.hid hg16
          clear hb6 hn6 hg16 hk0 hk1
          clear hK K hHeld2
          try simp only [Act.put, List.setIfInBounds_toArray, List.set_cons_zero, List.set_cons_succ]
          refine wpAnyT_take 12 (v := ?_) (by kernel_rfl) rfl (by kernel_rfl) (by decide) rfl (by kernel_rfl) (by kernel_rfl) (fun _ _ _ h => h) (Or.inl ⟨by rfl, ?_⟩) (by assumption) ?_
          rotate_left
          · (intro wq hSq; (try dsimp only at hSq); go_simp; try with_reducible rfl)
          try simp only [Act.put, List.setIfInBounds_toArray, List.set_cons_zero, List.set_cons_succ]
          refine wpAnyT_last (by kernel_rfl) (by kernel_rfl) rfl (fun K hK => ?_)
          obtain ⟨d0, d1, fz0, fz1⟩ := num_cells HG6.out
          go_simp
          refine hK.out _ _ ?_
          clear hK K hHeld3 d0 d1 fz0 fz1
          have m2 := num_set HG6.out (.bool false) (.slice a6 n6 c6)
          have hb9 : Below w.heap.size w ((w6.setCell ⟨w.heap.size + 1, 0, none⟩ (.bool false)).setCell ⟨w.heap.size + 1, 1, none⟩ (.slice a6 n6 c6)) := (HB6.out.setCell (by simp) _).setCell (by simp) _
          have hn9 : World.owns ((w6.setCell ⟨w.heap.size + 1, 0, none⟩ (.bool false)).setCell ⟨w.heap.size + 1, 1, none⟩ (.slice a6 n6 c6)) w.heap.size 22 1 (.slice a6 n6 c6) (hw n).length ((hw n).map u32V) := ((World.owns.setCell HN6.out HZ1.out _).setCell HZ1.out _).mono HZ2.out
          obtain ⟨d20, d21, -, -⟩ := num_cells m2
          clear m2
          generalize (w6.setCell ⟨w.heap.size + 1, 0, none⟩ (.bool false)).setCell ⟨w.heap.size + 1, 1, none⟩ (.slice a6 n6 c6) = W9 at d20 d21 hb9 hn9 ⊢
          have HB9 := Lib.hid hb9
          have HN9 := Lib.hid hn9
          clear hb9 hn9
          go_wp2
          rw [HP.out]
          exact bodyPost_ret (v := .agg #[.bool false, .slice a6 n6 c6]) (by simp [results, Try.results92, go_sem, d20, d21]) rfl ⟨.slice a6 n6 c6, by rw [hSt.out], HN9.out, HB9.out⟩
theorem htrim_any (s : Bool) (n L : Nat) (hn : n < 65536 ^ L) (hL : L ≤ 10000) (v : Value) (w : World) (hv : World.rawH w v n L) :
    Calls Try.prog 92 #[.agg #[.bool s, v]] w (SRet w (s && decide (n ≠ 0)) n) := (htrim_own s n L hn hL v w hv).mono fun _ _ h => h.ret
end Go.Proofs.Ytkjlfjnncdkmlaa

/- The reference's numbers with signs: a small integer; the negative; the integer of a form. -/
namespace Go.Proofs.Ytkjlfjnncdkmlaa
set_option linter.all false
open Go.RowKit Go.Shelf Go.WideNum
theorem SRet.bel {w w' : World} {s : Bool} {n : Nat} {e : Ending} (h : SRet w s n e w') : Below w.heap.size w w' := h.choose_spec.2.2
end Go.Proofs.Ytkjlfjnncdkmlaa

/- The reference's numbers with signs: the integer of a form. -/
namespace Go.Proofs.Ytkjlfjnncdkmlaa
set_option linter.all false
open Go.RowKit Go.Shelf Go.WideNum
theorem num_set1 {W : World} {g : Nat} {u0 u1 : Value} {T : TypeId} (h : W.heap[g]? = some (.cells #[u0, u1] T)) (y : Value) :
    (W.setCell ⟨g, 1, none⟩ y).heap[g]? = some (.cells #[u0, y] T) := by
  simp [World.setCell, Array.getElem?_modify, h]
theorem cell_other {W : World} {g b o : Nat} (hb : b ≠ g) (y : Value) : (W.setCell ⟨g, o, none⟩ y).heap[b]? = W.heap[b]? := by
  simp [World.setCell, Array.getElem?_modify, Ne.symm hb]
theorem pow2 (q : Nat) : 65536 ^ q = 256 ^ (2 * q) := by rw [show (65536 : Nat) = 256 ^ 2 by rfl, ← Nat.pow_mul]
end Go.Proofs.Ytkjlfjnncdkmlaa

/- Wide integers: helpers and walks, in one text (WD5 WD6 WD7 WD8 WD9 WMa). -/
/- Walks: quotient and rest of two forms. -/
namespace Go.Proofs.Ytkjlfjnncdkmlaa
set_option linter.all false
open Go.RowKit Go.Shelf Go.WideNum
theorem form_numZ (n : Nat) (neg : Bool) (v : Value) (w : World) (h : World.numR w v n) (hl : (wd n).length ≤ 2000) : ∃ b t, outZ (zOf neg n) = .agg #[.bool b, .string t] ∧
    Calls Try.prog 102 #[v, .bool neg] w fun e w' => e = .returned (.tuple #[.agg #[.bool b, .string t], .int .i64 (errZ (zOf neg n))]) ∧ Below w.heap.size w w' := by
  have hwide : ∃ b t, outB neg n = .agg #[.bool b, .string t] := by unfold outB emptyW wideV; split <;> exact ⟨_, _, rfl⟩
  obtain ⟨b, t, hbt⟩ := hwide
  refine ⟨b, t, by rw [← outB_z]; exact hbt, ?_⟩
  have := form_num n neg v w h hl
  unfold FormRet at this
  rwa [hbt, outE_z neg] at this
theorem two_forms (na : Bool) (sa : ByteArray) (nb : Bool) (sb : ByteArray) (W : World) (g : Nat) (h : W.heap[g]? = some (.cells #[.bool na, .string sa, .bool nb, .string sb] 42)) : World.forms W g [(na, sa), (nb, sb)] := by
  intro k x hk
  match k, hk with
  | 0, hk => injection hk with hk; subst hk; exact ⟨by rw [cell_of_row W _ _ _ _ (0, 0) h]; rfl, by rw [cell_of_row W _ _ _ _ (0, 0) h]; rfl⟩
  | 1, hk => injection hk with hk; subst hk; exact ⟨by rw [cell_of_row W _ _ _ _ (0, 0) h]; rfl, by rw [cell_of_row W _ _ _ _ (0, 0) h]; rfl⟩
  | k + 2, hk => simp at hk
theorem valid2_any (na : Bool) (sa : ByteArray) (nb : Bool) (sb : ByteArray) (hsa : sa.size ≤ maxLen) (hsb : sb.size ≤ maxLen) (W : World) (g : Nat) (h : W.heap[g]? = some (.cells #[.bool na, .string sa, .bool nb, .string sb] 42)) :
    Calls Try.prog 104 #[.slice (some ⟨g, 0, none⟩) 2 2] W fun e w' => e = .returned (.bool (validB na sa && validB nb sb)) ∧ Below W.heap.size W w' := by
  have := valid_any [(na, sa), (nb, sb)] g (by simp) (by simp [hsa, hsb]) W (two_forms na sa nb sb W g h) (lt_of_heap h)
  simpa using this
theorem wide_other {W : World} {p q : Nat} (h : p ≠ q) (neg : Bool) (s : ByteArray) : ((W.setCell ⟨q, 0, none⟩ (.bool neg)).setCell ⟨q, 1, none⟩ (.string s)).heap[p]? = W.heap[p]? := by
  rw [Below.heap_setCell _ _ _ _ h, Below.heap_setCell _ _ _ _ h]
theorem below_set2 {w W : World} {p : Nat} (hb : Below w.heap.size w W) (hp : w.heap.size ≤ p) (b : Bool) (s : ByteArray) : Below w.heap.size w ((W.setCell ⟨p, 0, none⟩ (.bool b)).setCell ⟨p, 1, none⟩ (.string s)) := (hb.setCell hp _).setCell hp _
end Go.Proofs.Ytkjlfjnncdkmlaa

/- Walks: the balanced remainder. -/
namespace Go.Proofs.Ytkjlfjnncdkmlaa
set_option linter.all false
open Go.RowKit Go.Shelf Go.WideNum
def balZ (a m : Int) : Int := if m < 2 * (a % m) then a % m - m else a % m
def balF (na : Bool) (sa : ByteArray) (nb : Bool) (sb : ByteArray) : Value × Int :=
  if validB na sa && posB nb sb then (outZ (balZ (zV na sa) (zV nb sb)), errZ (balZ (zV na sa) (zV nb sb))) else (emptyW, 2)
theorem NumRet.belD {w w' : World} {e : Ending} {n : Nat} (h : NumRet w.drew n e w') : Below w.heap.size w w' := ((Below.refl w.heap.size w).drew).trans h.bel
theorem left_num (A k : Nat) (hk : k ≤ 100000) (va : Value) (w : World) (hA : World.numR w va A) (hla : (wd A).length ≤ 2000) (z : Int) (hz : z = (k : Int)) :
    Calls Try.prog 123 #[va, .int .i64 z] w (NumRet w (A * 2 ^ k)) := by subst hz; exact left_any A k hk va w hA hla
theorem wd_len_le {A C k : Nat} (h : A ≤ C) (hc : (wd C).length ≤ k) : (wd A).length ≤ k := by
  have h1 := words_length (B := 4294967296) (by omega) A (wd C).length (Nat.lt_of_le_of_lt h (wd_vlt C))
  unfold wd at *; omega
theorem wd_len_double {A k : Nat} (hc : (wd A).length ≤ k) : (wd (A * 2 ^ 1)).length ≤ k + 1 := by
  have h1 := wd_vlt A
  have h2 := words_length (B := 4294967296) (by omega) (A * 2 ^ 1) ((wd A).length + 1) (by rw [Nat.pow_succ]; omega)
  unfold wd at *; omega
set_option maxRecDepth 100000 in
set_option maxHeartbeats 8000000 in
theorem Balanced_any (na : Bool) (sa : ByteArray) (nb : Bool) (sb : ByteArray) (hsa : sa.size ≤ maxLen) (hsb : sb.size ≤ maxLen)
    (hD : validB na sa = true → validB nb sb = true → sb.size ≠ 0 → DivOK (numB sa) (numB sb)) (w : World) :
    Calls Try.prog 109 #[.agg #[.bool na, .string sa], .agg #[.bool nb, .string sb]] w fun e w' => e = .returned (.tuple #[(balF na sa nb sb).1, .int .i64 (balF na sa nb sb).2]) ∧ Below w.heap.size w w' := by
  obtain ⟨HPOST, hpost⟩ : ∃ X : Ending → World → Prop, X = fun e w' => e = .returned (.tuple #[(balF na sa nb sb).1, .int .i64 (balF na sa nb sb).2]) ∧ Below w.heap.size w w' := ⟨_, rfl⟩
  rw [← hpost]
  have HP := Lib.hid hpost
  clear hpost
  obtain ⟨W0, hW0⟩ : ∃ W0, W0 = ((w.alloc (.cells #[.bool na, .string sa] 42)).alloc (.cells #[.bool nb, .string sb] 42)).alloc (.cells #[.bool false, .string ⟨#[]⟩] 42) := ⟨_, rfl⟩
  have g0 : W0.heap[w.heap.size]? = some (.cells #[.bool na, .string sa] 42) := by rw [hW0]; repeat (first | (refine alloc_last _ _ ?_; simp only [World.size_alloc]; done) | (rw [Below.heap_alloc]; rotate_left; (simp only [World.size_alloc]; omega)))
  have g1 : W0.heap[w.heap.size + 1]? = some (.cells #[.bool nb, .string sb] 42) := by rw [hW0]; repeat (first | (refine alloc_last _ _ ?_; simp only [World.size_alloc]; done) | (rw [Below.heap_alloc]; rotate_left; (simp only [World.size_alloc]; omega)))
  have g2 : W0.heap[w.heap.size + 1 + 1]? = some (.cells #[.bool false, .string ⟨#[]⟩] 42) := by rw [hW0]; repeat (first | (refine alloc_last _ _ ?_; simp only [World.size_alloc]; done) | (rw [Below.heap_alloc]; rotate_left; (simp only [World.size_alloc]; omega)))
  have hb0 : Below w.heap.size w W0 := by rw [hW0]; exact ((((Below.refl _ w).alloc (Nat.le_refl _) _).alloc (by simp) _).alloc (by simp; omega) _)
  have HB0 := Lib.hid hb0
  have HG0 := Lib.hid g0
  have HG1 := Lib.hid g1
  have HG2 := Lib.hid g2
  obtain ⟨c00, c01, f0⟩ := wide_cells g0
  obtain ⟨c10, c11, f1⟩ := wide_cells g1
  have HW0 := Lib.hid hW0
  clear hb0 g0 g1 g2 hW0
  have HVAL : Hid (∀ W : World, Calls Try.prog 117 #[.agg #[.bool na, .string sa]] W fun e w' => e = .returned (.bool (validB na sa)) ∧ Below W.heap.size W w') := Valid_wide na sa hsa
  have HPOS : Hid (∀ W : World, Calls Try.prog 121 #[.agg #[.bool nb, .string sb]] W fun e w' => e = .returned (.bool (posB nb sb)) ∧ Below W.heap.size W w') := positive_any nb sb hsb
  obtain ⟨okv, hov⟩ : ∃ ok, ok = validB na sa := ⟨_, rfl⟩
  obtain ⟨okp, hop⟩ : ∃ ok, ok = posB nb sb := ⟨_, rfl⟩
  rw [← hov] at HVAL
  rw [← hop] at HPOS
  have HOV := Lib.hid hov
  have HOP := Lib.hid hop
  clear hov hop
  go_enter Try.func109, Try.ntmps109
  go_upto_region 1 with (fail)
  rw [← HW0.out]
  go_wp2_with fail
  (with_reducible refine (HVAL.out _).mono ?_)
  rintro e w1 ⟨rfl, hb1⟩
  have k0 := (hb1.block _ (lt_of_heap HG0.out)).trans HG0.out
  have k1 := (hb1.block _ (lt_of_heap HG1.out)).trans HG1.out
  have k2 := (hb1.block _ (lt_of_heap HG2.out)).trans HG2.out
  have HBw1 := Lib.hid (HB0.out.trans (hb1.mono HB0.out.size))
  clear c00 c01 f0 c10 c11 f1 hb1
  cases okv with
  | false =>
    obtain ⟨c20, c21, f2⟩ := wide_cells k2
    have HK2 := Lib.hid k2
    clear k0 k1 k2
    have hres : Hid (balF na sa nb sb = (emptyW, 2)) := by show _ = _; unfold balF; rw [← HOV.out]; rfl
    go_wp2
    have m2 := wide_set HK2.out false ⟨#[]⟩
    have hb9 := below_set2 (p := w.heap.size + 1 + 1) HBw1.out (by omega) false ⟨#[]⟩
    obtain ⟨d20, d21, -⟩ := wide_cells m2
    clear m2
    generalize (w1.setCell ⟨w.heap.size + 1 + 1, 0, none⟩ (.bool false)).setCell ⟨w.heap.size + 1 + 1, 1, none⟩ (.string ⟨#[]⟩) = W9 at d20 d21 hb9 ⊢
    rw [HP.out]
    exact bodyPost_ret (v := .tuple #[emptyW, .int .i64 2]) (by simp [results, Try.results109, go_sem, d20, d21]; rfl) rfl ⟨by rw [hres.out], hb9⟩
  | true =>
    obtain ⟨c10, c11, f1⟩ := wide_cells k1
    have HK0 := Lib.hid k0
    have HK1 := Lib.hid k1
    have HK2 := Lib.hid k2
    clear k0 k1 k2
    go_wp2_with fail
    (with_reducible refine (HPOS.out _).mono ?_)
    rintro e w2 ⟨rfl, hb2⟩
    have k0 := (hb2.block _ (lt_of_heap HK0.out)).trans HK0.out
    have k1 := (hb2.block _ (lt_of_heap HK1.out)).trans HK1.out
    have k2 := (hb2.block _ (lt_of_heap HK2.out)).trans HK2.out
    have HBw2 := Lib.hid (HBw1.out.trans (hb2.mono HBw1.out.size))
    clear c10 c11 f1 hb2
    cases okp with
    | false =>
      obtain ⟨c20, c21, f2⟩ := wide_cells k2
      have HK22 := Lib.hid k2
      clear k0 k1 k2
      have hres : Hid (balF na sa nb sb = (emptyW, 2)) := by show _ = _; unfold balF; rw [← HOV.out, ← HOP.out]; rfl
      go_wp2
      have m2 := wide_set HK22.out false ⟨#[]⟩
      have hb9 := below_set2 (p := w.heap.size + 1 + 1) HBw2.out (by omega) false ⟨#[]⟩
      obtain ⟨d20, d21, -⟩ := wide_cells m2
      clear m2
      generalize (w2.setCell ⟨w.heap.size + 1 + 1, 0, none⟩ (.bool false)).setCell ⟨w.heap.size + 1 + 1, 1, none⟩ (.string ⟨#[]⟩) = W9 at d20 d21 hb9 ⊢
      rw [HP.out]
      exact bodyPost_ret (v := .tuple #[emptyW, .int .i64 2]) (by simp [results, Try.results109, go_sem, d20, d21]; rfl) rfl ⟨by rw [hres.out], hb9⟩
    | true =>
      have hp := HOP.out
      unfold posB at hp
      have hv1 : validB nb sb = true := by cases h : validB nb sb <;> rw [h] at hp <;> first | rfl | cases hp
      rw [hv1, Bool.true_and] at hp
      have hp2 : sb.size ≠ 0 ∧ nb = false := by
        have h := hp.symm
        rw [Bool.and_eq_true, decide_eq_true_eq] at h
        exact ⟨h.1, by cases nb with
          | false => rfl
          | true => cases h.2⟩
      obtain ⟨h0, hnb⟩ := hp2
      subst hnb
      obtain ⟨l1, -, -, s256a⟩ := valid_spec na sa HOV.out.symm
      obtain ⟨l2, hmg, -, s256b⟩ := valid_spec false sb hv1
      have hofA : Hid (∀ W : World, Calls Try.prog 106 #[.agg #[.bool na, .string sa]] W (NumRet W (numB sa))) := of_wide na sa (by omega)
      have hofB : Hid (∀ W : World, Calls Try.prog 106 #[.agg #[.bool false, .string sb]] W (NumRet W (numB sb))) := of_wide false sb (by omega)
      have hD2 := hD HOV.out.symm hv1 h0
      have hB0 : numB sb ≠ 0 := by
        intro h
        rw [h] at hmg
        exact h0 (by rw [← hmg]; rfl)
      have hwa := wd_len65 l1
      have hwb := wd_len65 l2
      have hres : balF na sa false sb = (outZ (balZ (zV na sa) (zV false sb)), errZ (balZ (zV na sa) (zV false sb))) := by
        unfold balF; rw [← HOV.out, ← HOP.out]; rfl
      unfold zV at hres
      obtain ⟨A, hA⟩ : ∃ A, A = numB sa := ⟨_, rfl⟩
      obtain ⟨C, hC⟩ : ∃ C, C = numB sb := ⟨_, rfl⟩
      rw [← hA, ← hC] at hres
      rw [← hA] at hofA hwa
      rw [← hC] at hofB hB0 hwb
      rw [← hA, ← hC] at hD2
      obtain ⟨-, fz2⟩ := floor_z A na C false hB0
      have HFL : Hid (∀ (va vb : Value) (W : World), World.numR W va A → World.numR W vb C → Calls Try.prog 122 #[va, .bool na, vb, .bool false] W (FloorRet W A na C false)) := fun va vb W h1 h2 => floor_any A C na false hB0 hD2 (by omega) (by omega) va vb W h1 h2
      obtain ⟨r, hr⟩ : ∃ r, r = floorR A na C := ⟨_, rfl⟩
      have hrC : r < C := by
        rw [hr]
        have h3 := Nat.mod_lt A (show 0 < C by omega)
        unfold floorR
        split <;> omega
      have hwr : (wd r).length ≤ 64 := wd_len_le (Nat.le_of_lt hrC) hwb
      have hbz : balZ (zOf na A) (zOf false C) = if C < r * 2 ^ 1 then -((C - r : Nat) : Int) else (r : Int) := by
        unfold balZ
        rw [← fz2, ← hr, zOf_false]
        by_cases h : C < r * 2 ^ 1
        · rw [if_pos h, if_pos (by omega)]; omega
        · rw [if_neg h, if_neg (by omega)]
      rw [hbz] at hres
      have HRES := Lib.hid hres
      have HRR := Lib.hid hr
      obtain ⟨c00, c01, f0⟩ := wide_cells k0
      obtain ⟨c10, c11, f1⟩ := wide_cells k1
      have hl0 := lt_of_heap k0
      have hl1 := lt_of_heap k1
      have HK02 := Lib.hid k0
      have HK22 := Lib.hid k2
      have HWR := Lib.hid hwr
      have HWB := Lib.hid hwb
      clear hres hD2 hB0 hwa hwb hwr fz2 hA hC hmg l1 l2 h0 hr hbz k0 k1 k2 hv1 hp
      go_wp2_with fail
      (with_reducible refine (hofB.out _).mono ?_)
      rintro e w3 hy
      obtain ⟨vy, rfl, hoy, hby⟩ := hy
      have HY : Hid (World.numR w3 vy C) := hoy.reads
      obtain ⟨ay, cy, rfl⟩ := numR_shape HY.out
      have d0 := (hby.cell (p := ⟨w.heap.size, 0, none⟩) hl0).trans c00
      have d1 := (hby.cell (p := ⟨w.heap.size, 1, none⟩) hl0).trans c01
      have hm0 := Nat.lt_of_lt_of_le hl0 hby.size
      have HK23 := Lib.hid ((hby.block _ (lt_of_heap HK22.out)).trans HK22.out)
      have HBw3 := Lib.hid (HBw2.out.trans (hby.mono HBw2.out.size))
      clear hoy hby c00 c01 f0 c10 c11 f1 hl0 hl1
      go_wp2_with fail
      go_region_held3 (fun w' => (w'.cell? ⟨w.heap.size, 0, none⟩ = some (.bool na) ∧ w'.cell? ⟨w.heap.size, 1, none⟩ = some (.string sa)))
        (first | exact ⟨d0, d1⟩ | (refine ⟨?_, ?_⟩ <;> assumption))
        (first
          | (go_simp; go_at_call 106; (with_reducible refine (hofA.out _).mono ?_); rintro e w5 ⟨v5, rfl, ho5, hb5⟩; have H5 : Hid (NumRet _ A (.returned v5) w5) := ⟨v5, rfl, ho5, hb5⟩; have a0 := (hb5.cell (p := ⟨w.heap.size, 0, none⟩) hm0).trans d0; have a1 := (hb5.cell (p := ⟨w.heap.size, 1, none⟩) hm0).trans d1; have hn0 := Nat.lt_of_lt_of_le hm0 hb5.size; clear ho5 hb5)
          | (go_simp; go_at_call 122; (with_reducible refine (HFL.out _ _ _ H5.out.numR (numR_below HY.out H5.out.belD)).mono ?_); rintro e w7 ⟨v7, u7, rfl, hq7, hr7, hb7⟩; have HQ7 : Hid (World.numR w7 v7 (floorN A na C)) := hq7; have HR7 : Hid (World.numR w7 u7 (floorR A na C)) := hr7; have HB7 := Lib.hid hb7; have b0 := (hb7.cell (p := ⟨w.heap.size, 0, none⟩) hn0).trans a0; have b1 := (hb7.cell (p := ⟨w.heap.size, 1, none⟩) hn0).trans a1; clear hq7 hr7 hb7))
      have hb35 := H5.out.belD
      have hb37 : Below w3.heap.size w3 w7 := hb35.trans (HB7.out.mono hb35.size)
      have HY7 := Lib.hid (numR_below HY.out hb37)
      have HK27 := Lib.hid ((hb37.block _ (lt_of_heap HK23.out)).trans HK23.out)
      have HBw7 := Lib.hid (HBw3.out.trans (hb37.mono HBw3.out.size))
      rw [← HRR.out] at HR7
      obtain ⟨a7, c7, rfl⟩ := numR_shape HQ7.out
      obtain ⟨a8, c8, rfl⟩ := numR_shape HR7.out
      have hlr := left_num r 1 (by omega) _ w7 HR7.out (by have := HWR.out; omega) 1 rfl
      have HLR := Lib.hid hlr
      clear hb35 hb37 a0 a1 b0 b1 d0 d1 hm0 hn0 hlr
      go_wp2_with fail
      (with_reducible refine (HLR.out).mono ?_)
      rintro e w8 hr8
      obtain ⟨v8, rfl, ho8, hb8⟩ := hr8
      have HN8 : Hid (World.numR w8 v8 (r * 2 ^ 1)) := ho8.reads
      have HY8 := Lib.hid (numR_below HY7.out hb8)
      have HR8 := Lib.hid (numR_below HR7.out hb8)
      have HK28 := Lib.hid ((hb8.block _ (lt_of_heap HK27.out)).trans HK27.out)
      have HBw8 := Lib.hid (HBw7.out.trans (hb8.mono HBw7.out.size))
      have hcmp := compare_num (r * 2 ^ 1) C _ _ w8 HN8.out HY8.out (by have := wd_len_double HWR.out; omega) (by have := HWB.out; omega)
      obtain ⟨T, hT⟩ : ∃ T, T = cmpN (r * 2 ^ 1) C := ⟨_, rfl⟩
      rw [← hT] at hcmp
      have HCMP := Lib.hid hcmp
      clear ho8 hb8 hcmp
      by_cases hlt : C < r * 2 ^ 1
      · have ht1 : T = 1 := by rw [hT, cmpN, if_neg (by omega), if_pos hlt]
        have hres : Hid (balF na sa false sb = (outZ (zOf true (C - r)), errZ (zOf true (C - r)))) := by show _ = _; rw [HRES.out, if_pos hlt]; rfl
        subst ht1
        clear hT hlt
        go_wp2_with fail
        (with_reducible refine (HCMP.out).mono ?_)
        rintro e w9 ⟨rfl, n9, rfl⟩
        have hmin := minus_any C r (Nat.le_of_lt hrC) _ _ (w8.drewN n9) (reads_drewN HY8.out n9) (reads_drewN HR8.out n9) (by have := HWB.out; omega) (by have := HWR.out; omega)
        have HMIN := Lib.hid hmin
        clear hmin
        go_wp2_with fail
        (with_reducible refine (HMIN.out).mono ?_)
        rintro e w10 hr10
        obtain ⟨v10, rfl, ho10, hb10⟩ := hr10
        have HN10 : Hid (World.numR w10 v10 (C - r)) := ho10.reads
        have HK210 := Lib.hid ((hb10.block _ (show w.heap.size + 1 + 1 < (w8.drewN n9).heap.size from lt_of_heap HK28.out)).trans HK28.out)
        have HBw10 : Hid (Below w.heap.size w w10) := (below_drewN HBw8.out n9).trans (hb10.mono (show w.heap.size ≤ (w8.drewN n9).heap.size from HBw8.out.size))
        clear ho10 hb10
        obtain ⟨fb, ft, hf1, hf2⟩ := form_numZ (C - r) true v10 w10 HN10.out (by have := wd_len_le (show C - r ≤ C by omega) HWB.out; omega)
        have HF := Lib.hid hf2
        rw [hf1] at hres
        obtain ⟨E, hE⟩ : ∃ E, E = errZ (zOf true (C - r)) := ⟨_, rfl⟩
        rw [← hE] at HF hres
        clear hf1 hf2 hE
        go_wp2_with fail
        (with_reducible refine (HF.out).mono ?_)
        rintro e w11 ⟨rfl, hb11⟩
        have k2 := (hb11.block _ (lt_of_heap HK210.out)).trans HK210.out
        have HBw11 := Lib.hid (HBw10.out.trans (hb11.mono HBw10.out.size))
        obtain ⟨c20, c21, f2⟩ := wide_cells k2
        have HK211 := Lib.hid k2
        clear k2 hb11
        go_wp2
        have m2 := wide_set HK211.out fb ft
        have hb9 := below_set2 (p := w.heap.size + 1 + 1) HBw11.out (by omega) fb ft
        obtain ⟨d20, d21, -⟩ := wide_cells m2
        clear m2
        generalize (w11.setCell ⟨w.heap.size + 1 + 1, 0, none⟩ (.bool fb)).setCell ⟨w.heap.size + 1 + 1, 1, none⟩ (.string ft) = W9 at d20 d21 hb9 ⊢
        rw [HP.out]
        exact bodyPost_ret (v := .tuple #[.agg #[.bool fb, .string ft], .int .i64 E]) (by simp [results, Try.results109, go_sem, d20, d21]) rfl ⟨by rw [hres.out], hb9⟩
      · have ht1 : T = 0 ∨ T = -1 := by
          rw [hT, cmpN]
          by_cases h : r * 2 ^ 1 < C
          · rw [if_pos h]; exact Or.inr rfl
          · rw [if_neg h, if_neg hlt]; exact Or.inl rfl
        have ht2 : ¬ 0 < T := by omega
        have hres : Hid (balF na sa false sb = (outZ (zOf false r), errZ (zOf false r))) := by show _ = _; rw [HRES.out, if_neg hlt]; rfl
        clear hT hlt ht1
        go_wp2_with fail
        (with_reducible refine (HCMP.out).mono ?_)
        rintro e w9 ⟨rfl, n9, rfl⟩
        obtain ⟨fb, ft, hf1, hf2⟩ := form_numZ r false _ (w8.drewN n9) (numR_drewN HR8.out n9) (by have := HWR.out; omega)
        have HF := Lib.hid hf2
        rw [hf1] at hres
        obtain ⟨E, hE⟩ : ∃ E, E = errZ (zOf false r) := ⟨_, rfl⟩
        rw [← hE] at HF hres
        have HK29 : Hid ((w8.drewN n9).heap[w.heap.size + 1 + 1]? = some (.cells #[.bool false, .string ⟨#[]⟩] 42)) := HK28.out
        have HBw9 : Hid (Below w.heap.size w (w8.drewN n9)) := below_drewN HBw8.out n9
        clear hf1 hf2 hE
        go_wp2_with fail
        (with_reducible refine (HF.out).mono ?_)
        rintro e w11 ⟨rfl, hb11⟩
        have k2 := (hb11.block _ (lt_of_heap HK29.out)).trans HK29.out
        have HBw11 := Lib.hid (HBw9.out.trans (hb11.mono HBw9.out.size))
        obtain ⟨c20, c21, f2⟩ := wide_cells k2
        have HK211 := Lib.hid k2
        clear k2 hb11
        go_wp2
        have m2 := wide_set HK211.out fb ft
        have hb9 := below_set2 (p := w.heap.size + 1 + 1) HBw11.out (by omega) fb ft
        obtain ⟨d20, d21, -⟩ := wide_cells m2
        clear m2
        generalize (w11.setCell ⟨w.heap.size + 1 + 1, 0, none⟩ (.bool fb)).setCell ⟨w.heap.size + 1 + 1, 1, none⟩ (.string ft) = W9 at d20 d21 hb9 ⊢
        rw [HP.out]
        exact bodyPost_ret (v := .tuple #[.agg #[.bool fb, .string ft], .int .i64 E]) (by simp [results, Try.results109, go_sem, d20, d21]) rfl ⟨by rw [hres.out], hb9⟩
end Go.Proofs.Ytkjlfjnncdkmlaa

/- Walks: a form shifted to the left. -/

/- Walks: the calls that each law makes at its end. -/

/- Walks: two forms compared. -/
namespace Go.Proofs.Ytkjlfjnncdkmlaa
set_option linter.all false
open Go.RowKit Go.Shelf Go.WideNum
def cmpZ (a b : Int) : Int := if a < b then -1 else if b < a then 1 else 0
def cmpF (na : Bool) (sa : ByteArray) (nb : Bool) (sb : ByteArray) : Int × Int := if validB na sa && validB nb sb then (cmpZ (zV na sa) (zV nb sb), 0) else (0, 2)
theorem cmp_same (neg : Bool) (A C : Nat) : (if neg then -cmpN A C else cmpN A C) = cmpZ (zOf neg A) (zOf neg C) := by
  unfold cmpN cmpZ zOf
  cases neg
  · simp only [Bool.false_eq_true, if_false]
    by_cases h1 : A < C
    · rw [if_pos h1, if_pos (by omega)]
    · rw [if_neg h1, if_neg (show ¬ (A : Int) < (C : Int) by omega)]
      by_cases h2 : C < A
      · rw [if_pos h2, if_pos (by omega)]
      · rw [if_neg h2, if_neg (by omega)]
  · simp only [if_true]
    by_cases h1 : A < C
    · rw [if_pos h1, if_neg (by omega), if_pos (by omega)]; rfl
    · by_cases h2 : C < A
      · rw [if_neg h1, if_pos h2, if_pos (by omega)]
      · rw [if_neg h1, if_neg h2, if_neg (by omega), if_neg (by omega)]; rfl
theorem cmp_other (na nb : Bool) (h : na ≠ nb) (A C : Nat) (ha : na = true → A ≠ 0) (hc : nb = true → C ≠ 0) : (if na then (-1 : Int) else 1) = cmpZ (zOf na A) (zOf nb C) := by
  unfold cmpZ zOf
  cases na <;> cases nb
  · exact absurd rfl h
  · have := hc rfl
    simp only [Bool.false_eq_true, if_false, if_true]
    rw [if_neg (by omega), if_pos (by omega)]
  · have := ha rfl
    simp only [Bool.false_eq_true, if_false, if_true]
    rw [if_pos (by omega)]
  · exact absurd rfl h
theorem cmpN_bd (A C : Nat) : -1 ≤ cmpN A C ∧ cmpN A C ≤ 1 := by unfold cmpN; split <;> (try split) <;> omega
set_option maxRecDepth 100000 in
set_option maxHeartbeats 4000000 in
theorem signed_any (neg : Bool) (c : Int) (h1 : -1 ≤ c) (h2 : c ≤ 1) (w : World) : Calls Try.prog 111 #[.bool neg, .int .i64 c] w fun e w' => e = .returned (.int .i64 (if neg then -c else c)) ∧ w = w' := by
  cases neg
  · go_enter Try.func111, Try.ntmps111
    go_wp2
    go_ret
    exact ⟨rfl, rfl⟩
  · go_enter Try.func111, Try.ntmps111
    go_wp2
    go_ret
    exact ⟨rfl, rfl⟩
set_option maxRecDepth 100000 in
set_option maxHeartbeats 8000000 in
theorem Cmp_any (na : Bool) (sa : ByteArray) (nb : Bool) (sb : ByteArray) (hsa : sa.size ≤ maxLen) (hsb : sb.size ≤ maxLen) (w : World) :
    Calls Try.prog 95 #[.agg #[.bool na, .string sa], .agg #[.bool nb, .string sb]] w fun e w' => e = .returned (.tuple #[.int .i64 (cmpF na sa nb sb).1, .int .i64 (cmpF na sa nb sb).2]) ∧ Below w.heap.size w w' := by
  obtain ⟨HPOST, hpost⟩ : ∃ X : Ending → World → Prop, X = fun e w' => e = .returned (.tuple #[.int .i64 (cmpF na sa nb sb).1, .int .i64 (cmpF na sa nb sb).2]) ∧ Below w.heap.size w w' := ⟨_, rfl⟩
  rw [← hpost]
  have HP := Lib.hid hpost
  clear hpost
  obtain ⟨W0, hW0⟩ : ∃ W0, W0 = (w.alloc (.cells #[.bool na, .string sa] 42)).alloc (.cells #[.bool nb, .string sb] 42) := ⟨_, rfl⟩
  have g0 : W0.heap[w.heap.size]? = some (.cells #[.bool na, .string sa] 42) := by rw [hW0]; repeat (first | (refine alloc_last _ _ ?_; simp only [World.size_alloc]; done) | (rw [Below.heap_alloc]; rotate_left; (simp only [World.size_alloc]; omega)))
  have g1 : W0.heap[w.heap.size + 1]? = some (.cells #[.bool nb, .string sb] 42) := by rw [hW0]; repeat (first | (refine alloc_last _ _ ?_; simp only [World.size_alloc]; done) | (rw [Below.heap_alloc]; rotate_left; (simp only [World.size_alloc]; omega)))
  have hb0 : Below w.heap.size w W0 := by rw [hW0]; exact (((Below.refl _ w).alloc (Nat.le_refl _) _).alloc (by simp) _)
  have HB0 := Lib.hid hb0
  have HG0 := Lib.hid g0
  have HG1 := Lib.hid g1
  obtain ⟨c00, c01, f0⟩ := wide_cells g0
  obtain ⟨c10, c11, f1⟩ := wide_cells g1
  have HW0 := Lib.hid hW0
  clear hb0 g0 g1 hW0
  go_enter Try.func95, Try.ntmps95
  go_upto_region 1 with (fail)
  rw [← HW0.out]
  go_wp2_with fail
  obtain ⟨ok, hok⟩ : ∃ ok, ok = (validB na sa && validB nb sb) := ⟨_, rfl⟩
  have hval := valid2_any na sa nb sb hsa hsb (W0.alloc (.cells #[.bool na, .string sa, .bool nb, .string sb] 42)) W0.heap.size (heap_alloc_new W0 _)
  rw [← hok] at hval
  have HOK := Lib.hid hok
  clear hok
  (with_reducible refine hval.mono ?_)
  clear hval
  rintro e w1 ⟨rfl, hb1⟩
  have hb01 : Below W0.heap.size W0 w1 := ((Below.refl _ W0).alloc (Nat.le_refl _) _).trans (hb1.mono (by simp))
  have k0 := (hb01.block _ (lt_of_heap HG0.out)).trans HG0.out
  have k1 := (hb01.block _ (lt_of_heap HG1.out)).trans HG1.out
  have HBw1 := Lib.hid (HB0.out.trans (hb01.mono HB0.out.size))
  clear c00 c01 f0 c10 c11 f1 hb1
  obtain ⟨c00, c01, f0⟩ := wide_cells k0
  obtain ⟨c10, c11, f1⟩ := wide_cells k1
  have hl0 := lt_of_heap k0
  have hl1 := lt_of_heap k1
  clear k0 k1 hb01
  cases ok with
  | false =>
    have hres : Hid (cmpF na sa nb sb = (0, 2)) := by show _ = _; unfold cmpF; rw [← HOK.out]; rfl
    go_wp2
    rw [HP.out]
    exact ⟨by rw [hres.out]; rfl, HBw1.out⟩
  | true =>
    have hv : validB na sa = true ∧ validB nb sb = true := by
      have := HOK.out
      cases h1 : validB na sa <;> cases h2 : validB nb sb <;> rw [h1, h2] at this <;> first | exact ⟨rfl, rfl⟩ | cases this
    obtain ⟨l1, -, z1, s256a⟩ := valid_spec na sa hv.1
    obtain ⟨l2, -, z2, s256b⟩ := valid_spec nb sb hv.2
    have hres : Hid (cmpF na sa nb sb = (cmpZ (zOf na (numB sa)) (zOf nb (numB sb)), 0)) := by show _ = _; unfold cmpF; rw [← HOK.out]; rfl
    by_cases hs : na = nb
    · subst hs
      have hofA : Hid (∀ W : World, Calls Try.prog 106 #[.agg #[.bool na, .string sa]] W (NumRet W (numB sa))) := of_wide na sa (by omega)
      have hofB : Hid (∀ W : World, Calls Try.prog 106 #[.agg #[.bool na, .string sb]] W (NumRet W (numB sb))) := of_wide na sb (by omega)
      have hwa := wd_len65 l1
      have hwb := wd_len65 l2
      obtain ⟨A, hA⟩ : ∃ A, A = numB sa := ⟨_, rfl⟩
      obtain ⟨C, hC⟩ : ∃ C, C = numB sb := ⟨_, rfl⟩
      rw [← hA, ← hC] at hres
      rw [← hA] at hofA hwa
      rw [← hC] at hofB hwb
      rw [← cmp_same] at hres
      have hcmp : Hid (∀ (va vb : Value) (W : World), World.numR W va A → World.numR W vb C → Calls Try.prog 112 #[va, vb] W fun e w' => e = .returned (.int .i64 (cmpN A C)) ∧ ∃ n, w' = W.drewN n) := fun va vb W h1 h2 => compare_num A C va vb W h1 h2 (by omega) (by omega)
      obtain ⟨bd1, bd2⟩ := cmpN_bd A C
      obtain ⟨T, hT⟩ : ∃ T, T = cmpN A C := ⟨_, rfl⟩
      rw [← hT] at hcmp hres bd1 bd2
      have hsg : Hid (∀ W : World, Calls Try.prog 111 #[.bool na, .int .i64 T] W fun e w' => e = .returned (.int .i64 (if na then -T else T)) ∧ W = w') := fun W => signed_any na T bd1 bd2 W
      obtain ⟨Z, hZ⟩ : ∃ Z, Z = if na then -T else T := ⟨_, rfl⟩
      rw [← hZ] at hsg hres
      have HWA := Lib.hid hwa
      clear hT hZ hA hC z1 z2 l1 l2 hwa hwb hv bd1 bd2
      go_wp2_with fail
      go_region_held3 (fun w' => (w'.cell? ⟨w.heap.size, 0, none⟩ = some (.bool na) ∧ w'.cell? ⟨w.heap.size, 1, none⟩ = some (.string sa) ∧ w'.cell? ⟨w.heap.size + 1, 0, none⟩ = some (.bool na) ∧ w'.cell? ⟨w.heap.size + 1, 1, none⟩ = some (.string sb)))
        (first | exact ⟨c00, c01, c10, c11⟩ | (refine ⟨?_, ?_, ?_, ?_⟩ <;> assumption) | exact ⟨b0, b1, b2, b3⟩)
        (first
          | (go_simp; go_at_call 106; (with_reducible refine (hofA.out _).mono ?_); rintro e w5 ⟨v5, rfl, ho5, hb5⟩; have H5 : Hid (NumRet _ A (.returned v5) w5) := ⟨v5, rfl, ho5, hb5⟩; have a0 := (hb5.cell (p := ⟨w.heap.size, 0, none⟩) hl0).trans c00; have a1 := (hb5.cell (p := ⟨w.heap.size, 1, none⟩) hl0).trans c01; have a2 := (hb5.cell (p := ⟨w.heap.size + 1, 0, none⟩) hl1).trans c10; have a3 := (hb5.cell (p := ⟨w.heap.size + 1, 1, none⟩) hl1).trans c11; have hm0 := Nat.lt_of_lt_of_le hl0 hb5.size; have hm1 := Nat.lt_of_lt_of_le hl1 hb5.size; clear ho5 hb5)
          | (go_simp; go_at_call 106; (with_reducible refine (hofB.out _).mono ?_); rintro e w6 ⟨v6, rfl, ho6, hb6⟩; have H6 : Hid (NumRet _ C (.returned v6) w6) := ⟨v6, rfl, ho6, hb6⟩; have b0 := (hb6.cell (p := ⟨w.heap.size, 0, none⟩) hm0).trans a0; have b1 := (hb6.cell (p := ⟨w.heap.size, 1, none⟩) hm0).trans a1; have b2 := (hb6.cell (p := ⟨w.heap.size + 1, 0, none⟩) hm1).trans a2; have b3 := (hb6.cell (p := ⟨w.heap.size + 1, 1, none⟩) hm1).trans a3; have HB6 := Lib.hid (H5.out.belD.trans (hb6.mono H5.out.belD.size)); clear ho6 hb6)
          | (go_simp; go_at_call 112; (with_reducible refine (hcmp.out _ _ _ (numR_below H5.out.numR H6.out.bel) H6.out.numR).mono ?_); rintro e w7 ⟨rfl, n7, rfl⟩)
          | (go_simp; go_at_call 111; (with_reducible refine (hsg.out _).mono ?_); rintro e w8 ⟨rfl, rfl⟩))
      have hbf := below_drewN (HBw1.out.trans (HB6.out.mono HBw1.out.size)) n7
      go_wp2
      rw [HP.out]
      exact ⟨by rw [hres.out]; rfl, hbf⟩
    · rw [← cmp_other na nb hs _ _ z1 z2] at hres
      have hcs : (na = true ∧ nb = false) ∨ (na = false ∧ nb = true) := by cases na <;> cases nb <;> simp at hs ⊢
      clear z1 z2 l1 l2 hv
      rcases hcs with ⟨rfl, rfl⟩ | ⟨rfl, rfl⟩
      · have hsg : Hid (∀ W : World, Calls Try.prog 111 #[.bool true, .int .i64 1] W fun e w' => e = .returned (.int .i64 (-1)) ∧ W = w') := fun W => signed_any true 1 (by omega) (by omega) W
        clear hs
        go_wp2_with fail
        (with_reducible refine (hsg.out _).mono ?_)
        rintro e w8 ⟨rfl, rfl⟩
        go_wp2
        rw [HP.out]
        exact ⟨by rw [hres.out]; rfl, HBw1.out⟩
      · have hsg : Hid (∀ W : World, Calls Try.prog 111 #[.bool false, .int .i64 1] W fun e w' => e = .returned (.int .i64 1) ∧ W = w') := fun W => signed_any false 1 (by omega) (by omega) W
        clear hs
        go_wp2_with fail
        (with_reducible refine (hsg.out _).mono ?_)
        rintro e w8 ⟨rfl, rfl⟩
        go_wp2
        rw [HP.out]
        exact ⟨by rw [hres.out]; rfl, HBw1.out⟩
end Go.Proofs.Ytkjlfjnncdkmlaa

/- Plain: a text leads back to the integer, and the integer to the text. -/
namespace Go.Proofs.Ytkjlfjnncdkmlaa
set_option linter.all false
open Go.WideNum
theorem valid_magB (neg : Bool) (n : Nat) (h : n < lim) (hz : neg = true → n ≠ 0) : validB neg (magB n) = true ∧ numB (magB n) = n := by
  have hnum : numB (magB n) = n := by unfold numB magB; exact valM_magL n
  refine ⟨?_, hnum⟩
  unfold validB
  have hl := magL_length n
  by_cases h0 : n = 0
  · subst h0
    cases neg with
    | false => rfl
    | true => exact absurd rfl (hz rfl)
  · have hsz : (magB n).size = (words 256 n).length := by rw [← hl]; rfl
    have hw0 : ¬ (words 256 n).length = 0 := fun h => h0 ((words_len0 (B := 256) (by omega) n).1 h)
    rw [dif_neg (by rw [hsz]; exact hw0)]
    have h256 := (lim_iff n _ rfl).1 h
    rw [Bool.and_eq_true]
    refine ⟨decide_eq_true ?_, decide_eq_true (by rw [hsz]; exact h256)⟩
    intro hz0
    have htr := words_trimmed (B := 256) (by omega) n n (Nat.le_refl _)
    have hp : 0 < (magL n).length := by rw [hl]; omega
    have e1 : (magL n)[0] = 0 := hz0
    have e2 : (magL n).head? = some 0 := by rw [List.head?_eq_getElem?, List.getElem?_eq_getElem hp, e1]
    unfold magL at e2
    rw [List.head?_reverse, List.getLast?_map] at e2
    cases hg : (words 256 n).getLast? with
    | none => rw [hg] at e2; cases e2
    | some x =>
      rw [hg] at e2
      injection e2 with e2
      have hx := htr x hg
      have hx2 := words_lt (B := 256) (by omega) n n x (List.mem_of_getLast? hg)
      have : (UInt8.ofNat x).toNat = 0 := by
        have e3 : UInt8.ofNat x = 0 := e2
        rw [e3]; rfl
      rw [UInt8.toNat_ofNat'] at this
      have e4 : x % 256 = 0 := this
      omega
end Go.Proofs.Ytkjlfjnncdkmlaa

/- Walks: the sum of two forms. -/
namespace Go.Proofs.Ytkjlfjnncdkmlaa
set_option linter.all false
open Go.RowKit Go.Shelf Go.WideNum
def opF (f : Int → Int → Int) (na : Bool) (sa : ByteArray) (nb : Bool) (sb : ByteArray) : Value × Int :=
  if validB na sa && validB nb sb then (outZ (f (zV na sa) (zV nb sb)), errZ (f (zV na sa) (zV nb sb))) else (emptyW, 2)
theorem mul_z (A : Nat) (an : Bool) (C : Nat) (bn : Bool) : zOf (an != bn) (A * C) = zOf an A * zOf bn C := by
  unfold zOf
  cases an <;> cases bn <;> simp [Int.natCast_mul, Int.mul_neg, Int.neg_mul]
theorem bne_eq (a b : Bool) : (!(a == b)) = (a != b) := rfl
theorem sumN_le (A : Nat) (an : Bool) (C : Nat) (bn : Bool) : sumN A an C bn ≤ A + C := by
  unfold sumN
  split
  · exact Nat.le_refl _
  · split <;> omega
theorem wd_len_sum {A C n : Nat} (ha : (wd A).length ≤ 64) (hc : (wd C).length ≤ 64) (h : n ≤ A + C) : (wd n).length ≤ 65 := by
  have h1 := wd_vlt A
  have h2 := wd_vlt C
  have hp : (4294967296 : Nat) ^ (wd A).length ≤ 4294967296 ^ 64 := Nat.pow_le_pow_right (by omega) ha
  have hp2 : (4294967296 : Nat) ^ (wd C).length ≤ 4294967296 ^ 64 := Nat.pow_le_pow_right (by omega) hc
  exact words_length (by omega) n 65 (by rw [show (65 : Nat) = 64 + 1 by rfl, Nat.pow_succ]; omega)
theorem wd_len_prod {A C : Nat} (ha : (wd A).length ≤ 64) (hc : (wd C).length ≤ 64) : (wd (A * C)).length ≤ 128 := by
  have h1 := wd_vlt A
  have h2 := wd_vlt C
  have hp : (4294967296 : Nat) ^ (wd A).length ≤ 4294967296 ^ 64 := Nat.pow_le_pow_right (by omega) ha
  have hp2 : (4294967296 : Nat) ^ (wd C).length ≤ 4294967296 ^ 64 := Nat.pow_le_pow_right (by omega) hc
  exact words_length (by omega) (A * C) 128 (by
    rw [show (128 : Nat) = 64 + 64 by rfl, Nat.pow_add]
    exact Nat.mul_lt_mul'' (Nat.lt_of_lt_of_le h1 hp) (Nat.lt_of_lt_of_le h2 hp2))
theorem sum_num (A C : Nat) (an bn : Bool) (va vb : Value) (w : World) (hA : World.numR w va A) (hC : World.numR w vb C) (hla : (wd A).length ≤ 2000) (hlc : (wd C).length ≤ 2000) :
    Calls Try.prog 120 #[va, .bool an, vb, .bool bn] w fun e w' => (∃ v, e = .returned (.tuple #[v, .bool (sumS A an C bn)]) ∧ World.numR w' v (sumN A an C bn)) ∧ Below w.heap.size w w' :=
  (sum_any A C an bn va vb w hA hC hla hlc).mono fun e w' ⟨v, he, hr⟩ => ⟨⟨v, he, hr.numR⟩, hr.bel⟩
theorem times_num (A C : Nat) (va vb : Value) (w : World) (hA : World.numR w va A) (hC : World.numR w vb C) (hl : (wd A).length + (wd C).length ≤ 134) :
    Calls Try.prog 105 #[va, vb] w fun e w' => (∃ v, e = .returned v ∧ World.numR w' v (A * C)) ∧ Below w.heap.size w w' :=
  (times_any A C va vb w hA hC hl).mono fun e w' hr => by
    obtain ⟨v, rfl, h1, h2⟩ := hr
    exact ⟨⟨v, rfl, h1.reads⟩, h2⟩
set_option maxRecDepth 100000 in
set_option maxHeartbeats 8000000 in
theorem Add_any (na : Bool) (sa : ByteArray) (nb : Bool) (sb : ByteArray) (hsa : sa.size ≤ maxLen) (hsb : sb.size ≤ maxLen) (w : World) :
    Calls Try.prog 108 #[.agg #[.bool na, .string sa], .agg #[.bool nb, .string sb]] w fun e w' => e = .returned (.tuple #[(opF (fun a b => a + b) na sa nb sb).1, .int .i64 (opF (fun a b => a + b) na sa nb sb).2]) ∧ Below w.heap.size w w' := by
  obtain ⟨HPOST, hpost⟩ : ∃ X : Ending → World → Prop, X = fun e w' => e = .returned (.tuple #[(opF (fun a b => a + b) na sa nb sb).1, .int .i64 (opF (fun a b => a + b) na sa nb sb).2]) ∧ Below w.heap.size w w' := ⟨_, rfl⟩
  rw [← hpost]
  have HP := Lib.hid hpost
  clear hpost
  obtain ⟨W0, hW0⟩ : ∃ W0, W0 = ((w.alloc (.cells #[.bool na, .string sa] 42)).alloc (.cells #[.bool nb, .string sb] 42)).alloc (.cells #[.bool false, .string ⟨#[]⟩] 42) := ⟨_, rfl⟩
  have g0 : W0.heap[w.heap.size]? = some (.cells #[.bool na, .string sa] 42) := by rw [hW0]; repeat (first | (refine alloc_last _ _ ?_; simp only [World.size_alloc]; done) | (rw [Below.heap_alloc]; rotate_left; (simp only [World.size_alloc]; omega)))
  have g1 : W0.heap[w.heap.size + 1]? = some (.cells #[.bool nb, .string sb] 42) := by rw [hW0]; repeat (first | (refine alloc_last _ _ ?_; simp only [World.size_alloc]; done) | (rw [Below.heap_alloc]; rotate_left; (simp only [World.size_alloc]; omega)))
  have g2 : W0.heap[w.heap.size + 1 + 1]? = some (.cells #[.bool false, .string ⟨#[]⟩] 42) := by rw [hW0]; repeat (first | (refine alloc_last _ _ ?_; simp only [World.size_alloc]; done) | (rw [Below.heap_alloc]; rotate_left; (simp only [World.size_alloc]; omega)))
  have hb0 : Below w.heap.size w W0 := by rw [hW0]; exact ((((Below.refl _ w).alloc (Nat.le_refl _) _).alloc (by simp) _).alloc (by simp; omega) _)
  have HB0 := Lib.hid hb0
  have HG0 := Lib.hid g0
  have HG1 := Lib.hid g1
  have HG2 := Lib.hid g2
  obtain ⟨c00, c01, f0⟩ := wide_cells g0
  obtain ⟨c10, c11, f1⟩ := wide_cells g1
  have HW0 := Lib.hid hW0
  clear hb0 g0 g1 g2 hW0
  go_enter Try.func108, Try.ntmps108
  go_upto_region 1 with (fail)
  rw [← HW0.out]
  go_wp2_with fail
  obtain ⟨ok, hok⟩ : ∃ ok, ok = (validB na sa && validB nb sb) := ⟨_, rfl⟩
  have hval := valid2_any na sa nb sb hsa hsb (W0.alloc (.cells #[.bool na, .string sa, .bool nb, .string sb] 42)) W0.heap.size (heap_alloc_new W0 _)
  rw [← hok] at hval
  have HOK := Lib.hid hok
  clear hok
  (with_reducible refine hval.mono ?_)
  clear hval
  rintro e w1 ⟨rfl, hb1⟩
  have hb01 : Below W0.heap.size W0 w1 := ((Below.refl _ W0).alloc (Nat.le_refl _) _).trans (hb1.mono (by simp))
  have k0 := (hb01.block _ (lt_of_heap HG0.out)).trans HG0.out
  have k1 := (hb01.block _ (lt_of_heap HG1.out)).trans HG1.out
  have k2 := (hb01.block _ (lt_of_heap HG2.out)).trans HG2.out
  have HK2 := Lib.hid k2
  have HBw1 := Lib.hid (HB0.out.trans (hb01.mono HB0.out.size))
  clear c00 c01 f0 c10 c11 f1 hb1
  obtain ⟨c00, c01, f0⟩ := wide_cells k0
  obtain ⟨c10, c11, f1⟩ := wide_cells k1
  obtain ⟨e20, e21, f2⟩ := wide_cells k2
  have hl0 := lt_of_heap k0
  have hl1 := lt_of_heap k1
  have hl2 := lt_of_heap k2
  clear k0 k1 k2 hb01
  cases ok with
  | false =>
    have hres : Hid (opF (fun a b => a + b) na sa nb sb = (emptyW, 2)) := by show _ = _; unfold opF; rw [← HOK.out]; rfl
    go_wp2
    have m2 := wide_set HK2.out false ⟨#[]⟩
    have hb9 := below_set2 (p := w.heap.size + 1 + 1) HBw1.out (by omega) false ⟨#[]⟩
    obtain ⟨d20, d21, -⟩ := wide_cells m2
    clear m2 e20 e21 f2
    generalize (w1.setCell ⟨w.heap.size + 1 + 1, 0, none⟩ (.bool false)).setCell ⟨w.heap.size + 1 + 1, 1, none⟩ (.string ⟨#[]⟩) = W9 at d20 d21 hb9 ⊢
    rw [HP.out]
    exact bodyPost_ret (v := .tuple #[emptyW, .int .i64 2]) (by simp [results, Try.results108, go_sem, d20, d21]; rfl) rfl ⟨by rw [hres.out], hb9⟩
  | true =>
    have hv : validB na sa = true ∧ validB nb sb = true := by
      have := HOK.out
      cases h1 : validB na sa <;> cases h2 : validB nb sb <;> rw [h1, h2] at this <;> first | exact ⟨rfl, rfl⟩ | cases this
    obtain ⟨l1, -, -, s256a⟩ := valid_spec na sa hv.1
    obtain ⟨l2, -, -, s256b⟩ := valid_spec nb sb hv.2
    have hofA : Hid (∀ W : World, Calls Try.prog 106 #[.agg #[.bool na, .string sa]] W (NumRet W (numB sa))) := of_wide na sa (by omega)
    have hofB : Hid (∀ W : World, Calls Try.prog 106 #[.agg #[.bool nb, .string sb]] W (NumRet W (numB sb))) := of_wide nb sb (by omega)
    have hwa := wd_len65 l1
    have hwb := wd_len65 l2
    have hres : opF (fun a b => a + b) na sa nb sb = (outZ ((fun a b => a + b) (zV na sa) (zV nb sb)), errZ ((fun a b => a + b) (zV na sa) (zV nb sb))) := by unfold opF; rw [← HOK.out]; rfl
    unfold zV at hres
    obtain ⟨A, hA⟩ : ∃ A, A = numB sa := ⟨_, rfl⟩
    obtain ⟨C, hC⟩ : ∃ C, C = numB sb := ⟨_, rfl⟩
    rw [← hA, ← hC] at hres
    rw [← hA] at hofA hwa
    rw [← hC] at hofB hwb
    have HSUM : Hid (∀ (va vb : Value) (W : World) (b' : Bool), World.numR W va A → World.numR W vb C → b' = nb → Calls Try.prog 120 #[va, .bool na, vb, .bool b'] W fun e w' => (∃ v, e = .returned (.tuple #[v, .bool (sumS A na C (nb))]) ∧ World.numR w' v (sumN A na C (nb))) ∧ Below W.heap.size W w') := fun va vb W b' h1 h2 h3 => by rw [h3]; exact sum_num A C na (nb) va vb W h1 h2 (by omega) (by omega)
    obtain ⟨S, hS⟩ : ∃ S, S = sumS A na C (nb) := ⟨_, rfl⟩
    obtain ⟨M, hMM⟩ : ∃ M, M = sumN A na C (nb) := ⟨_, rfl⟩
    have hML : (wd M).length ≤ 65 := wd_len_sum hwa hwb (by rw [hMM]; exact sumN_le _ _ _ _)
    rw [show (fun a b => a + b) (zOf na A) (zOf nb C) = zOf S M by rw [hS, hMM]; exact (sum_z A na C nb).symm] at hres
    rw [← hS, ← hMM] at HSUM
    clear hS
    have hff : ∃ fb ft, outZ (zOf S M) = .agg #[.bool fb, .string ft] ∧ ∀ (v : Value) (W : World) (S' : Bool), World.numR W v M → S' = S → Calls Try.prog 102 #[v, .bool S'] W fun e w' => e = .returned (.tuple #[.agg #[.bool fb, .string ft], .int .i64 (errZ (zOf S M))]) ∧ Below W.heap.size W w' := by
      have hwide : ∃ b t, outB S M = .agg #[.bool b, .string t] := by unfold outB emptyW wideV; split <;> exact ⟨_, _, rfl⟩
      obtain ⟨b, t, hbt⟩ := hwide
      refine ⟨b, t, by rw [← outB_z]; exact hbt, fun v W S' h hS => ?_⟩
      subst hS
      obtain ⟨b', t', h1, h2⟩ := form_numZ M S' v W h (by omega)
      rw [← outB_z, hbt] at h1
      rwa [← h1] at h2
    obtain ⟨fb, ft, hf1, hf2⟩ := hff
    obtain ⟨E, hE⟩ : ∃ E, E = errZ (zOf S M) := ⟨_, rfl⟩
    rw [hf1, ← hE] at hres
    rw [← hE] at hf2
    have HFF := Lib.hid hf2
    have HRES := Lib.hid hres
    skip
    clear hres hf1 hf2 hE hA hC l1 l2 hwa hwb hv hML hMM
    go_wp2_with fail
    go_region_held3 (fun w' => (w'.cell? ⟨w.heap.size, 0, none⟩ = some (.bool na) ∧ w'.cell? ⟨w.heap.size, 1, none⟩ = some (.string sa) ∧ w'.cell? ⟨w.heap.size + 1, 0, none⟩ = some (.bool nb) ∧ w'.cell? ⟨w.heap.size + 1, 1, none⟩ = some (.string sb)))
      (first | exact ⟨c00, c01, c10, c11⟩ | (refine ⟨?_, ?_, ?_, ?_⟩ <;> assumption) | exact ⟨(World.cell?_of_block (a := ⟨w.heap.size, 0, none⟩) (wide_other (p := w.heap.size) (q := w.heap.size + 1 + 1) (by omega) fb ft)).trans q0, (World.cell?_of_block (a := ⟨w.heap.size, 1, none⟩) (wide_other (p := w.heap.size) (q := w.heap.size + 1 + 1) (by omega) fb ft)).trans q1, (World.cell?_of_block (a := ⟨w.heap.size + 1, 0, none⟩) (wide_other (p := w.heap.size + 1) (q := w.heap.size + 1 + 1) (by omega) fb ft)).trans q2, (World.cell?_of_block (a := ⟨w.heap.size + 1, 1, none⟩) (wide_other (p := w.heap.size + 1) (q := w.heap.size + 1 + 1) (by omega) fb ft)).trans q3⟩)
      (first
        | (go_simp; go_at_call 106; (with_reducible refine (hofA.out _).mono ?_); rintro e w5 ⟨v5, rfl, ho5, hb5⟩; have H5 : Hid (NumRet _ A (.returned v5) w5) := ⟨v5, rfl, ho5, hb5⟩; have a0 := (hb5.cell (p := ⟨w.heap.size, 0, none⟩) hl0).trans c00; have a1 := (hb5.cell (p := ⟨w.heap.size, 1, none⟩) hl0).trans c01; have a2 := (hb5.cell (p := ⟨w.heap.size + 1, 0, none⟩) hl1).trans c10; have a3 := (hb5.cell (p := ⟨w.heap.size + 1, 1, none⟩) hl1).trans c11; have ha0 := Nat.lt_of_lt_of_le hl0 hb5.size; have ha1 := Nat.lt_of_lt_of_le hl1 hb5.size;  clear ho5 hb5)
        | (go_simp; go_at_call 106; (with_reducible refine (hofB.out _).mono ?_); rintro e w6 ⟨v6, rfl, ho6, hb6⟩; have H6 : Hid (NumRet _ C (.returned v6) w6) := ⟨v6, rfl, ho6, hb6⟩; have b0 := (hb6.cell (p := ⟨w.heap.size, 0, none⟩) ha0).trans a0; have b1 := (hb6.cell (p := ⟨w.heap.size, 1, none⟩) ha0).trans a1; have b2 := (hb6.cell (p := ⟨w.heap.size + 1, 0, none⟩) ha1).trans a2; have b3 := (hb6.cell (p := ⟨w.heap.size + 1, 1, none⟩) ha1).trans a3; have hb_0 := Nat.lt_of_lt_of_le ha0 hb6.size; have hb_1 := Nat.lt_of_lt_of_le ha1 hb6.size;  clear ho6 hb6)
        | (go_simp; go_at_call 120; (with_reducible refine (HSUM.out _ _ _ _ (numR_below H5.out.numR H6.out.bel) H6.out.numR rfl).mono ?_); rintro e w7 ⟨⟨v7, rfl, h7⟩, hb7⟩; have H7 : Hid (World.numR w7 v7 M) := h7; have HB7 := Lib.hid hb7; have d0 := (hb7.cell (p := ⟨w.heap.size, 0, none⟩) hb_0).trans b0; have d1 := (hb7.cell (p := ⟨w.heap.size, 1, none⟩) hb_0).trans b1; have d2 := (hb7.cell (p := ⟨w.heap.size + 1, 0, none⟩) hb_1).trans b2; have d3 := (hb7.cell (p := ⟨w.heap.size + 1, 1, none⟩) hb_1).trans b3; have hd_0 := Nat.lt_of_lt_of_le hb_0 hb7.size; have hd_1 := Nat.lt_of_lt_of_le hb_1 hb7.size;  clear h7 hb7)
        | (go_simp; go_at_call 102; (with_reducible refine (HFF.out _ _ _ H7.out rfl).mono ?_); rintro e w8 ⟨rfl, hb8⟩; have q0 := (hb8.cell (p := ⟨w.heap.size, 0, none⟩) hd_0).trans d0; have q1 := (hb8.cell (p := ⟨w.heap.size, 1, none⟩) hd_0).trans d1; have q2 := (hb8.cell (p := ⟨w.heap.size + 1, 0, none⟩) hd_1).trans d2; have q3 := (hb8.cell (p := ⟨w.heap.size + 1, 1, none⟩) hd_1).trans d3; have hq_0 := Nat.lt_of_lt_of_le hd_0 hb8.size; have hq_1 := Nat.lt_of_lt_of_le hd_1 hb8.size;  have HB8 := Lib.hid (H5.out.belD.trans (((H6.out.bel.trans (HB7.out.mono H6.out.bel.size)).trans (hb8.mono (Nat.le_trans H6.out.bel.size HB7.out.size))).mono H5.out.belD.size)); have K28 := (HB8.out.block _ hl2).trans HK2.out; have HK28 := Lib.hid K28; obtain ⟨e28, e29, f28⟩ := wide_cells K28; clear hb8 K28))
    all_goals
      go_wp2
      have m2 := wide_set HK28.out fb ft
      have hb9 := below_set2 (p := w.heap.size + 1 + 1) (HBw1.out.trans (HB8.out.mono HBw1.out.size)) (by omega) fb ft
      obtain ⟨d20, d21, -⟩ := wide_cells m2
      clear m2
      generalize (w8.setCell ⟨w.heap.size + 1 + 1, 0, none⟩ (.bool fb)).setCell ⟨w.heap.size + 1 + 1, 1, none⟩ (.string ft) = W9 at d20 d21 hb9 ⊢
      rw [HP.out]
      exact bodyPost_ret (v := .tuple #[.agg #[.bool fb, .string ft], .int .i64 E]) (by simp [results, Try.results108, go_sem, d20, d21]) rfl ⟨by rw [HRES.out], hb9⟩
end Go.Proofs.Ytkjlfjnncdkmlaa
