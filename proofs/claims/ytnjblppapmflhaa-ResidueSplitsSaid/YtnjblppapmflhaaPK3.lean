/- Helpers and walks, in one text. -/
import Derived.Test.YtnjblppapmflhaaPK2
/- Wide integers: helpers and walks, in one text (WD1 WM8 WD2 HeldD WM9 WD3 WD4). -/
/- Walks: the form of an integer. -/
namespace Go.Proofs.Ytnjblppapmflhaa
set_option linter.all false
open Go.RowKit Go.Shelf Go.WideNum
theorem two_new (x y : Nat) (w : World) : (w.alloc (.cells #[.int .u32 (x : Int), .int .u32 (y : Int)] 23)).reads (w.alloc (.cells #[.int .u32 (x : Int), .int .u32 (y : Int)] 23)).heap.size (.slice (some ⟨w.heap.size, 0, none⟩) 2 2) ([x, y].map u32V) := by
  have := reads_alloc_new w [u32V x, u32V y] 23 2 (by simp) (by unfold maxLen; omega)
  simpa [u32V] using this
theorem lim_big : 18446744073709551616 < lim := by
  unfold lim
  have h : (256 : Nat) ^ 9 ≤ 256 ^ 256 := Nat.pow_le_pow_right (by omega) (by omega)
  have h2 : (256 : Nat) ^ 9 = 4722366482869645213696 := by decide
  omega
theorem wide_set {W : World} {g : Nat} {u0 u1 : Value} (h : W.heap[g]? = some (.cells #[u0, u1] 38)) (neg : Bool) (s : ByteArray) :
    ((W.setCell ⟨g, 0, none⟩ (.bool neg)).setCell ⟨g, 1, none⟩ (.string s)).heap[g]? = some (.cells #[.bool neg, .string s] 38) := by
  simp [World.setCell, Array.getElem?_modify, h]
theorem wide_cells {W : World} {g : Nat} {neg : Bool} {s : ByteArray} (h : W.heap[g]? = some (.cells #[.bool neg, .string s] 38)) :
    W.cell? ⟨g, 0, none⟩ = some (.bool neg) ∧ W.cell? ⟨g, 1, none⟩ = some (.string s) ∧ ∀ o, W.frozen? ⟨g, o, none⟩ = false :=
  ⟨by rw [cell_of_row W _ _ _ _ (0, 0) h]; rfl, by rw [cell_of_row W _ _ _ _ (0, 0) h]; rfl, fun o => by simp [World.frozen?, h]⟩
set_option maxRecDepth 100000 in
set_option maxHeartbeats 4000000 in
theorem Of_any (n : Int) (h1 : -9223372036854775808 ≤ n) (h2 : n < 9223372036854775808) (w : World) :
    Calls Try.prog 37 #[.int .i64 n] w fun e w' => e = .returned (outZ n) ∧ Below w.heap.size w w' := by
  obtain ⟨m, hm⟩ : ∃ m, m = n.natAbs := ⟨_, rfl⟩
  obtain ⟨lo, hlo⟩ : ∃ lo, lo = m % 4294967296 := ⟨_, rfl⟩
  obtain ⟨hi, hhi⟩ : ∃ hi, hi = m / 4294967296 := ⟨_, rfl⟩
  have hv : valW 4294967296 [lo, hi] = m := by simp only [valW]; omega
  have hil : hi < 4294967296 := by omega
  have hlim : n.natAbs < lim := by have := lim_big; omega
  obtain ⟨nb, hnb⟩ : ∃ nb, nb = decide (n < 0) := ⟨_, rfl⟩
  have hz : zOf nb m = n := by
    rw [hnb, hm]; unfold zOf
    by_cases h : n < 0
    · rw [decide_eq_true h, if_pos rfl]; omega
    · rw [decide_eq_false h]; simp; omega
  have hform : ∀ (a : Option Addr) (W : World), W.reads W.heap.size (.slice a 2 2) ([lo, hi].map u32V) → Calls Try.prog 67 #[.slice a 2 2, .bool nb] W fun e w' => e = .returned (.tuple #[wideV nb (magB m), .int .i64 0]) ∧ Below W.heap.size W w' := by
    intro a W hr
    have := form_any [lo, hi] (by simp; omega) (by simp) nb (.slice a 2 2) W hr
    rw [hv] at this
    refine this.mono ?_
    rintro e w' ⟨rfl, hb⟩
    refine ⟨?_, hb⟩
    rw [outB_z nb, outE_z nb, hz, (outZ_in n hlim).1, (outZ_in n hlim).2, ← hnb, ← hm]
  have HF := Lib.hid hform
  have hout : outZ n = wideV nb (magB m) := by rw [(outZ_in n hlim).1, ← hnb, ← hm]
  rw [hout]
  obtain ⟨S, hS⟩ : ∃ S, S = magB m := ⟨_, rfl⟩
  rw [← hS] at HF ⊢
  unfold wideV at HF ⊢
  have t3 : (m : Int) % 4294967296 = (lo : Int) := by omega
  have t4 : (m : Int) / 4294967296 % 4294967296 = (hi : Int) := by omega
  by_cases hn : n < 0
  · obtain ⟨a, ha⟩ : ∃ a : Nat, (a : Int) = n + 18446744073709551616 := ⟨(n + 18446744073709551616).toNat, by omega⟩
    have t1 : IntKind.u64.wrap n = (a : Int) := by rw [IntKind.wrap_u64]; omega
    have t2 : IntKind.u64.wrap (-(a : Int)) = (m : Int) := by rw [IntKind.wrap_u64]; omega
    have hnb2 : nb = true := by rw [hnb]; exact decide_eq_true hn
    subst hnb2
    clear hnb ha hm hlo hhi hv hform hout hS hlim hz h1 h2
    go_enter Try.func37, Try.ntmps37
    go_wp2_with fail
    have hb0 : Below w.heap.size w ((w.alloc (.cells #[.bool false, .string ⟨#[]⟩] 38)).alloc (.cells #[.int .u32 (lo : Int), .int .u32 (hi : Int)] 23)) := ((Below.refl _ w).alloc (Nat.le_refl _) _).alloc (by simp) _
    have hg0 : ((w.alloc (.cells #[.bool false, .string ⟨#[]⟩] 38)).alloc (.cells #[.int .u32 (lo : Int), .int .u32 (hi : Int)] 23)).heap[w.heap.size]? = some (.cells #[.bool false, .string ⟨#[]⟩] 38) := by
      rw [Below.heap_alloc _ _ _ (by simp)]; exact heap_alloc_new w _
    have htw := two_new lo hi (w.alloc (.cells #[.bool false, .string ⟨#[]⟩] 38))
    have esz : (w.alloc (.cells #[.bool false, .string ⟨#[]⟩] 38)).heap.size = w.heap.size + 1 := World.size_alloc _ _
    simp only [esz] at htw
    clear esz
    generalize (w.alloc (.cells #[.bool false, .string ⟨#[]⟩] 38)).alloc (.cells #[.int .u32 (lo : Int), .int .u32 (hi : Int)] 23) = W1 at hb0 hg0 htw ⊢
    have hsz := hb0.size
    have hlt1 := lt_of_heap hg0
    (with_reducible refine (HF.out _ W1 htw).mono ?_)
    rintro e w3 ⟨rfl, hb3⟩
    have hg3 := (hb3.block _ hlt1).trans hg0
    have hsz3 := hb3.size
    have c0 : w3.cell? ⟨w.heap.size, 0, none⟩ = some (.bool false) := by rw [cell_of_row w3 _ _ _ _ (0, 0) hg3]; rfl
    have c1 : w3.cell? ⟨w.heap.size, 1, none⟩ = some (.string ⟨#[]⟩) := by rw [cell_of_row w3 _ _ _ _ (0, 0) hg3]; rfl
    have f0 : ∀ o, w3.frozen? ⟨w.heap.size, o, none⟩ = false := fun o => by simp [World.frozen?, hg3]
    have hsl : w.heap.size < w3.heap.size := by omega
    have hsn : ¬ w.heap.size = w3.heap.size := by omega
    have hsn2 : ¬ w3.heap.size = w.heap.size := by omega
    have HB := Lib.hid (hb0.trans (hb3.mono hsz))
    clear hg0 hb0 htw hb3 hlt1 hsz hsz3
    go_wp2
    have hg9 : (((w3.setCell ⟨w.heap.size, 0, none⟩ (.bool true)).setCell ⟨w.heap.size, 1, none⟩ (.string S)).alloc (.cells #[.bool true, .string S] 38)).heap[w.heap.size]? = some (.cells #[.bool true, .string S] 38) := by
      rw [Below.heap_alloc _ _ _ (by simp; omega)]; exact wide_set hg3 true S
    obtain ⟨d0, d1, -⟩ := wide_cells hg9
    have hb9 : Below w.heap.size w (((w3.setCell ⟨w.heap.size, 0, none⟩ (.bool true)).setCell ⟨w.heap.size, 1, none⟩ (.string S)).alloc (.cells #[.bool true, .string S] 38)) := ((HB.out.setCell (by simp) _).setCell (by simp) _).alloc (by simp; omega) _
    generalize ((w3.setCell ⟨w.heap.size, 0, none⟩ (.bool true)).setCell ⟨w.heap.size, 1, none⟩ (.string S)).alloc (.cells #[.bool true, .string S] 38) = W9 at d0 d1 hb9 ⊢
    exact bodyPost_ret (v := .agg #[.bool true, .string S]) (by simp [results, Try.results37, go_sem, d0, d1]) rfl ⟨rfl, hb9⟩
  · have t1 : IntKind.u64.wrap n = (m : Int) := by rw [IntKind.wrap_u64]; omega
    have t5 : (m : Int) / 4294967296 = (hi : Int) := by omega
    have t1b : n % 18446744073709551616 = (m : Int) := by omega
    have hnb2 : nb = false := by rw [hnb]; exact decide_eq_false hn
    subst hnb2
    have hnm : n = (m : Int) := by omega
    subst hnm
    clear hnb hm hlo hhi hv hform hout hS hlim hz h1 h2
    go_enter Try.func37, Try.ntmps37
    go_wp2_with fail
    have hb0 : Below w.heap.size w ((w.alloc (.cells #[.bool false, .string ⟨#[]⟩] 38)).alloc (.cells #[.int .u32 (lo : Int), .int .u32 (hi : Int)] 23)) := ((Below.refl _ w).alloc (Nat.le_refl _) _).alloc (by simp) _
    have hg0 : ((w.alloc (.cells #[.bool false, .string ⟨#[]⟩] 38)).alloc (.cells #[.int .u32 (lo : Int), .int .u32 (hi : Int)] 23)).heap[w.heap.size]? = some (.cells #[.bool false, .string ⟨#[]⟩] 38) := by
      rw [Below.heap_alloc _ _ _ (by simp)]; exact heap_alloc_new w _
    have htw := two_new lo hi (w.alloc (.cells #[.bool false, .string ⟨#[]⟩] 38))
    have esz : (w.alloc (.cells #[.bool false, .string ⟨#[]⟩] 38)).heap.size = w.heap.size + 1 := World.size_alloc _ _
    simp only [esz] at htw
    clear esz
    generalize (w.alloc (.cells #[.bool false, .string ⟨#[]⟩] 38)).alloc (.cells #[.int .u32 (lo : Int), .int .u32 (hi : Int)] 23) = W1 at hb0 hg0 htw ⊢
    have hsz := hb0.size
    have hlt1 := lt_of_heap hg0
    (with_reducible refine (HF.out _ W1 htw).mono ?_)
    rintro e w3 ⟨rfl, hb3⟩
    have hg3 := (hb3.block _ hlt1).trans hg0
    have hsz3 := hb3.size
    have c0 : w3.cell? ⟨w.heap.size, 0, none⟩ = some (.bool false) := by rw [cell_of_row w3 _ _ _ _ (0, 0) hg3]; rfl
    have c1 : w3.cell? ⟨w.heap.size, 1, none⟩ = some (.string ⟨#[]⟩) := by rw [cell_of_row w3 _ _ _ _ (0, 0) hg3]; rfl
    have f0 : ∀ o, w3.frozen? ⟨w.heap.size, o, none⟩ = false := fun o => by simp [World.frozen?, hg3]
    have hsl : w.heap.size < w3.heap.size := by omega
    have hsn : ¬ w.heap.size = w3.heap.size := by omega
    have hsn2 : ¬ w3.heap.size = w.heap.size := by omega
    have HB := Lib.hid (hb0.trans (hb3.mono hsz))
    clear hg0 hb0 htw hb3 hlt1 hsz hsz3
    go_wp2
    have hg9 : (((w3.setCell ⟨w.heap.size, 0, none⟩ (.bool false)).setCell ⟨w.heap.size, 1, none⟩ (.string S)).alloc (.cells #[.bool false, .string S] 38)).heap[w.heap.size]? = some (.cells #[.bool false, .string S] 38) := by
      rw [Below.heap_alloc _ _ _ (by simp; omega)]; exact wide_set hg3 false S
    obtain ⟨d0, d1, -⟩ := wide_cells hg9
    have hb9 : Below w.heap.size w (((w3.setCell ⟨w.heap.size, 0, none⟩ (.bool false)).setCell ⟨w.heap.size, 1, none⟩ (.string S)).alloc (.cells #[.bool false, .string S] 38)) := ((HB.out.setCell (by simp) _).setCell (by simp) _).alloc (by simp; omega) _
    generalize ((w3.setCell ⟨w.heap.size, 0, none⟩ (.bool false)).setCell ⟨w.heap.size, 1, none⟩ (.string S)).alloc (.cells #[.bool false, .string S] 38) = W9 at d0 d1 hb9 ⊢
    exact bodyPost_ret (v := .agg #[.bool false, .string S]) (by simp [results, Try.results37, go_sem, d0, d1]) rfl ⟨rfl, hb9⟩
end Go.Proofs.Ytnjblppapmflhaa

/- Plain: decimal texts. -/

/- Walks: the integer of a text. -/
namespace Go.Proofs.Ytnjblppapmflhaa
set_option linter.all false
open Go.RowKit Go.Shelf Go.WideNum
theorem below_via {a b c : World} (h : Below a.heap.size a b) (k : Below b.heap.size b c) : Below a.heap.size a c := h.trans (k.mono h.size)
theorem form_num (n : Nat) (neg : Bool) (v : Value) (w : World) (h : World.numR w v n) (hl : (wd n).length ≤ 2000) : Calls Try.prog 67 #[v, .bool neg] w (FormRet w neg n) := by
  have := form_any (wd n) (words_lt (by omega) n n) hl neg v w h
  rwa [valW_wd] at this
end Go.Proofs.Ytnjblppapmflhaa

/- Moves of a walk through a region that draws its order: reads first, then several stores in one order. -/
namespace Go
set_option linter.all false
open RowKit
section
variable {P : Program} {ops : Array Oper} {Q : Exit → Act → World → Prop} {S : World → Prop} {late : Nat → Bool}
/-- As in a held region; what is late need not keep S. -/
def wpAnyD (P : Program) (ops : Array Oper) (Q : Exit → Act → World → Prop) (S : World → Prop) (late : Nat → Bool) : Nat → Array Bool → Act → World → Prop
  | 0, listed, a, w => Region.ready .any ops listed = [] ∧ Q .normal a w
  | fuel + 1, listed, a, w =>
    (Region.ready .any ops listed = [] → Q .normal a w) ∧
    ∀ i ∈ Region.ready .any ops listed, wpOp P ops Q i (fun a' w' => (late i = false → S w → S w') ∧ wpAnyD P ops Q S late fuel (listed.setIfInBounds i true) a' w') a w
theorem wpAny_of_D : ∀ (fuel : Nat) (listed : Array Bool) (a : Act) (w : World), wpAnyD P ops Q S late fuel listed a w → wpAny P .any ops Q fuel listed a w
  | 0, _, _, _, h => h
  | fuel + 1, _, _, _, h => ⟨h.1, fun i hi => wpOp_mono (fun a' w' h' => wpAny_of_D fuel _ a' w' h'.2) (h.2 i hi)⟩
/-- What is late waits for i. -/
def waitsB (ops : Array Oper) (late : Nat → Bool) (i : Nat) : Bool := (List.range ops.size).all fun j => !late j || ((ops[j]?).map fun o => o.after.any fun e => Region.binds .any e && e.on == i).getD false
theorem late_listed {i j : Nat} {listed : Array Bool} (hw : waitsB ops late i = true) (hl : late j = true) (hr : j ∈ Region.ready .any ops listed) : listed.getD i false = true := by
  rw [mem_ready] at hr
  obtain ⟨-, oL, hoL, h3⟩ := hr
  have hj : j < ops.size := by
    rcases Nat.lt_or_ge j ops.size with h | h
    · exact h
    · rw [Array.getElem?_eq_none h] at hoL; cases hoL
  unfold waitsB at hw
  rw [List.all_eq_true] at hw
  have h4 := hw j (List.mem_range.2 hj)
  rw [hl, hoL, Option.map_some, Option.getD_some, Bool.not_true, Bool.false_or, Array.any_eq_true] at h4
  obtain ⟨k, hk, h5⟩ := h4
  rw [Bool.and_eq_true] at h5
  have h6 := h3 _ (Array.getElem_mem hk) h5.1
  rw [beq_iff_eq.1 h5.2] at h6
  exact h6
theorem wpAnyD_first {i : Nat} {oi : Oper} {v : Value} (hw : waitsB ops late i = true) (hi : ops[i]? = some oi) (hsel : ∀ (j : Nat) (o : Oper) cs b, ops[j]? = some o → o.op ≠ .select cs b)
    (hQ : ∀ c a w, Q (.panic c) (a.put oi.dst v) w → Q (.panic c) a w) :
    ∀ (fuel : Nat) (listed : Array Bool) (a : Act) (w : World),
      (∀ j oj, ops[j]? = some oj → j ≠ i → listed.getD j true = false → (∀ e ∈ oj.after, Region.binds .any e = true → e.on ≠ i) → oi.apart ops oj = true) →
      i ∈ Region.ready .any ops listed → YieldsIf P ops S oi v a → S w →
      wpAnyD P ops Q S late fuel (listed.setIfInBounds i true) (a.put oi.dst v) w → wpAnyD P ops Q S late (fuel + 1) listed a w := by
  intro fuel
  induction fuel with
  | zero =>
    intro listed a w _ hr hy hS H
    refine ⟨fun h => (by rw [h] at hr; cases hr), fun j hj => ?_⟩
    by_cases hji : j = i
    · subst hji; exact hy.wpOp hi hS ⟨fun _ h => h, H⟩
    · have := ready_mono hj hji
      rw [H.1] at this
      cases this
  | succ fuel ih =>
    intro listed a w hfree hr hy hS H
    refine ⟨fun h => (by rw [h] at hr; cases hr), fun j hj => ?_⟩
    by_cases hji : j = i
    · subst hji; exact hy.wpOp hi hS ⟨fun _ h => h, H⟩
    · have hjL : late j = false := by
        cases hl : late j with
        | false => rfl
        | true => exact (unlisted_not (mem_ready.1 hr).1 (late_listed hw hl hj)).elim
      have h1 := H.2 j (ready_mono hj hji)
      obtain ⟨hjun, oj, hoj, hall⟩ := mem_ready.1 hj
      have hnot : ∀ e ∈ oj.after, Region.binds .any e = true → e.on ≠ i := fun e he hb heq => by
        have h1 := hall e he hb
        rw [heq] at h1
        exact unlisted_not (mem_ready.1 hr).1 h1
      have h2 := wpOp_putIf hoj (hfree j oj hoj hji hjun hnot) (fun cs b => hsel i oi cs b hi) (fun cs b => hsel j oj cs b hoj) hQ hy h1
      have hfree' : ∀ k ok, ops[k]? = some ok → k ≠ i → (listed.setIfInBounds j true).getD k true = false →
          (∀ e ∈ ok.after, Region.binds .any e = true → e.on ≠ i) → oi.apart ops ok = true := fun k ok hk hki hun hno => by
        refine hfree k ok hk hki ?_ hno
        by_cases hjk : j = k
        · subst hjk; exact hjun
        · rw [getD_set_ne true hjk] at hun; exact hun
      refine wpOp_mono (fun a' w' h3 => ⟨h3.2.1, ih (listed.setIfInBounds j true) a' w' hfree' (ready_mono hr (Ne.symm hji)) h3.1 (h3.2.1 hjL hS) ?_⟩) h2
      rw [Array.setIfInBounds_comm _ _ hji]
      exact h3.2.2
/-- An operation that yields in every world. -/
theorem wpAnyD_firstW {i : Nat} {oi : Oper} {v : Value} (hi : ops[i]? = some oi) (hsel : ∀ (j : Nat) (o : Oper) cs b, ops[j]? = some o → o.op ≠ .select cs b)
    (hQ : ∀ c a w, Q (.panic c) (a.put oi.dst v) w → Q (.panic c) a w) :
    ∀ (fuel : Nat) (listed : Array Bool) (a : Act) (w : World),
      (∀ j oj, ops[j]? = some oj → j ≠ i → listed.getD j true = false → (∀ e ∈ oj.after, Region.binds .any e = true → e.on ≠ i) → oi.apart ops oj = true) →
      i ∈ Region.ready .any ops listed → YieldsIf P ops (fun _ => True) oi v a →
      wpAnyD P ops Q S late fuel (listed.setIfInBounds i true) (a.put oi.dst v) w → wpAnyD P ops Q S late (fuel + 1) listed a w := by
  intro fuel
  induction fuel with
  | zero =>
    intro listed a w _ hr hy H
    refine ⟨fun h => (by rw [h] at hr; cases hr), fun j hj => ?_⟩
    by_cases hji : j = i
    · subst hji; exact hy.wpOp hi trivial ⟨fun _ h => h, H⟩
    · have := ready_mono hj hji
      rw [H.1] at this
      cases this
  | succ fuel ih =>
    intro listed a w hfree hr hy H
    refine ⟨fun h => (by rw [h] at hr; cases hr), fun j hj => ?_⟩
    by_cases hji : j = i
    · subst hji; exact hy.wpOp hi trivial ⟨fun _ h => h, H⟩
    · have h1 := H.2 j (ready_mono hj hji)
      obtain ⟨hjun, oj, hoj, hall⟩ := mem_ready.1 hj
      have hnot : ∀ e ∈ oj.after, Region.binds .any e = true → e.on ≠ i := fun e he hb heq => by
        have h1 := hall e he hb
        rw [heq] at h1
        exact unlisted_not (mem_ready.1 hr).1 h1
      have h2 := wpOp_putIf (S := fun _ => True) hoj (hfree j oj hoj hji hjun hnot) (fun cs b => hsel i oi cs b hi) (fun cs b => hsel j oj cs b hoj) hQ hy h1
      have hfree' : ∀ k ok, ops[k]? = some ok → k ≠ i → (listed.setIfInBounds j true).getD k true = false →
          (∀ e ∈ ok.after, Region.binds .any e = true → e.on ≠ i) → oi.apart ops ok = true := fun k ok hk hki hun hno => by
        refine hfree k ok hk hki ?_ hno
        by_cases hjk : j = k
        · subst hjk; exact hjun
        · rw [getD_set_ne true hjk] at hun; exact hun
      refine wpOp_mono (fun a' w' h3 => ⟨h3.2.1, ih (listed.setIfInBounds j true) a' w' hfree' (ready_mono hr (Ne.symm hji)) h3.1 ?_⟩) h2
      rw [Array.setIfInBounds_comm _ _ hji]
      exact h3.2.2
theorem wpAnyD_take (i : Nat) {oi : Oper} {v : Value} {fuel : Nat} {listed : Array Bool} {a : Act} {w : World} (hr : (Region.ready .any ops listed).contains i = true) (hw : waitsB ops late i = true) (hi : ops.toList[i]? = some oi)
    (hs : Region.noSelect ops = true) (hf : Region.free .any ops listed i = true)
    (hQ : ∀ c a w, Q (.panic c) (a.put oi.dst v) w → Q (.panic c) a w) (hy : YieldsIf P ops S oi v a) (hS : S w)
    (h : wpAnyD P ops Q S late fuel (listed.setIfInBounds i true) (a.put oi.dst v) w) : wpAnyD P ops Q S late (fuel + 1) listed a w :=
  wpAnyD_first hw (by simpa using hi) (Region.noSelect_spec hs) hQ fuel listed a w (Region.free_spec (by simpa using hi) hf) (by simpa using hr) hy hS h
theorem wpAnyD_takeW (i : Nat) {oi : Oper} {v : Value} {fuel : Nat} {listed : Array Bool} {a : Act} {w : World} (hr : (Region.ready .any ops listed).contains i = true) (hi : ops.toList[i]? = some oi)
    (hs : Region.noSelect ops = true) (hf : Region.free .any ops listed i = true)
    (hQ : ∀ c a w, Q (.panic c) (a.put oi.dst v) w → Q (.panic c) a w) (hy : YieldsIf P ops (fun _ => True) oi v a)
    (h : wpAnyD P ops Q S late fuel (listed.setIfInBounds i true) (a.put oi.dst v) w) : wpAnyD P ops Q S late (fuel + 1) listed a w :=
  wpAnyD_firstW (by simpa using hi) (Region.noSelect_spec hs) hQ fuel listed a w (Region.free_spec (by simpa using hi) hf) (by simpa using hr) hy h
/-- The one operation that may come up; it is late. -/
theorem wpAnyD_step (i : Nat) {o : Oper} {fuel : Nat} {listed : Array Bool} {a : Act} {w : World} (hr : Region.ready .any ops listed = [i]) (hl : late i = true) (ho : ops.toList[i]? = some o)
    (h : ∀ K' : Act → World → Prop, Shut (∀ a w, wpAnyD P ops Q S late fuel (listed.setIfInBounds i true) a w → K' a w) → if Region.wanted o (yielded ops a.tmps) = true then Oper.wp P o a w K' Q else K' (a.put o.dst undef) w) :
    wpAnyD P ops Q S late (fuel + 1) listed a w := by
  refine ⟨fun h0 => (by rw [hr] at h0; cases h0), fun j hj => ?_⟩
  rw [hr] at hj
  obtain rfl : j = i := by simpa using hj
  exact wpOp_step (by simpa using ho) (fun K' hK => h K' (fun a w hW => hK a w ⟨fun h => (by rw [hl] at h; cases h), hW⟩))
theorem wpAnyD_end {fuel : Nat} {listed : Array Bool} {a : Act} {w : World} (hr : Region.ready .any ops listed = []) (h : Q .normal a w) : wpAnyD P ops Q S late fuel listed a w := by
  cases fuel with
  | zero => exact ⟨hr, h⟩
  | succ fuel => exact ⟨fun _ => h, by rw [hr]; simp⟩
theorem wp_region_late {id : Nat} {a : Act} {w : World} (S : World → Prop) (late : Nat → Bool) (hm : P.follows .mixedOrders = true) (hS : S w.drew)
    (h : S w.drew → wpAnyD P ops Q S late ops.size (Array.replicate ops.size false) a w.drew) : (Code.region id ops true).wp P Q a w :=
  wp_region_any hm (wpAny_of_D _ _ _ _ (h hS))
end
end Go

/- Plain: decimal digits, nine at a time; a row that is turned round. -/

/- Walks: the decimal text of a form. -/
namespace Go.Proofs.Ytnjblppapmflhaa
set_option linter.all false
open Go.RowKit Go.Shelf Go.WideNum
def u8V (x : Nat) : Value := .int .u8 (x : Int)
theorem app_u8 {ops : Array Oper} {rest : List Oper} {o : Oper} {a : Act} {Q : Exit → Act → World → Prop} (W : World) (hg : o.guard = none) (s x : Operand)
    (hop : o.op = .call { callee := .builtin .append, args := #[s, x], argTypes := #[110, 110] })
    (base : Nat) (v : Value) (n : Nat) (xs : List Value) (hs : a.eval s = v) (hown : W.owns base 5 1 v n xs) (u : Int) (H : Nat) (hH : W.heap.size = H) (hx : a.eval x = .slice (some ⟨H, 0, none⟩) 1 1)
    (hn : n ≤ 1000000) (hbase : base ≤ W.heap.size)
    (h : ∀ v' w', w'.owns base 5 1 v' (n + 1) (xs ++ [.int .u8 u]) → W.grownBy w' v.ownBlock → W.heap.size < w'.heap.size → wpList Try.prog ops Q rest (a.put o.dst v') w') : wpList Try.prog ops Q (o :: rest) a (W.alloc (.cells #[.int .u8 u] 5)) := by
  obtain ⟨i0, hi, hz, h1, h2⟩ := info_parts infoByte
  exact wpList_append1 W hg s x 110 hop base 5 i0 (.int .u8 0) 1 Try.underlying110 hi hz h1 h2 rfl v n xs hs hown (.int .u8 u) H hH hx rfl (by unfold maxLen; omega) (by omega) hbase (fun v' w' h1 _ h3 h4 => h v' w' h1 h3 h4)
/-- Bytes that are owned, made a string. -/
theorem own_string {W : World} {base g n c : Nat} {l : List Nat} (h : W.owns base 5 1 (.slice (some ⟨g, 0, none⟩) n c) n (l.map u8V)) (hl : ∀ x ∈ l, x < 256) (dst : TypeId) (hd : Try.prog.underlying dst = some .string) :
    (convert 110 dst (.slice (some ⟨g, 0, none⟩) n c)).run Try.prog W = .ok (.string ⟨(l.map UInt8.ofNat).toArray⟩) W := by
  have hn : l.length = n := by have := h.1; simpa using this
  have e : l.map u8V = (l.map UInt8.ofNat).map fun b => Value.int .u8 (b.toNat : Int) := by
    rw [List.map_map]
    apply List.map_congr_left
    intro x hx
    show Value.int .u8 (x : Int) = Value.int .u8 (((UInt8.ofNat x).toNat : Nat) : Int)
    rw [UInt8.toNat_ofNat', Nat.mod_eq_of_lt (hl x hx)]
  rw [e] at h
  have h2 := run_owns_string (P := Try.prog) (w := W) (m := n) 110 dst 5 Try.underlying110 Try.underlying5 hd h (by simp [hn]) c
  rw [List.take_of_length_le (by simp [hn])] at h2
  exact h2
theorem Valid_wide (neg : Bool) (s : ByteArray) (hs : s.size ≤ maxLen) (w : World) :
    Calls Try.prog 52 #[.agg #[.bool neg, .string s]] w fun e w' => e = .returned (.bool (validB neg s)) ∧ Below w.heap.size w w' := Valid_any neg s hs w
theorem of_wide (neg : Bool) (s : ByteArray) (hs : s.size ≤ 2000) (w : World) : Calls Try.prog 78 #[.agg #[.bool neg, .string s]] w (NumRet w (numB s)) := of_any neg s hs w
theorem short_num (A n : Nat) (hn0 : 0 < n) (hn : n < 4294967296) (va : Value) (w : World) (hA : World.numR w va A) (hla : (wd A).length ≤ 2000) (z : Int) (hz : z = (n : Int)) :
    Calls Try.prog 93 #[va, .int .u32 z] w (ShortRet w A n) := by subst hz; exact short_any A n hn0 hn va w hA hla
theorem owns_fz {W : World} {base g n c : Nat} {e : TypeId} {xs : List Value} (h : W.owns base e 1 (.slice (some ⟨g, 0, none⟩) n c) n xs) (j : Nat) (hj : j < n) : W.frozen? ⟨g, j, none⟩ = false := by
  rcases h.2 with ⟨h0, _⟩ | ⟨g', cap, cur, fz, hv, hb, hg, hf, hle, hm, hs, _⟩
  · cases h0
  · injection hv with h1 h2 h3
    injection h1 with h1
    injection h1 with h1
    subst h1 h3
    have := hf j (by omega)
    simp [World.frozen?, hg]
    omega
end Go.Proofs.Ytnjblppapmflhaa

/- Walks: whether forms are valid, positive, too long. -/
namespace Go.Proofs.Ytnjblppapmflhaa
set_option linter.all false
open Go.RowKit Go.Shelf Go.WideNum
/-- Forms in memory. -/
def World.forms (w : World) (g : Nat) (L : List (Bool × ByteArray)) : Prop := ∀ k x, L[k]? = some x → w.cell? ⟨g, 2 * k, none⟩ = some (.bool x.1) ∧ w.cell? ⟨g, 2 * k + 1, none⟩ = some (.string x.2)
theorem forms_below {w w' : World} {g : Nat} {L : List (Bool × ByteArray)} (h : World.forms w g L) (hg : g < w.heap.size) (hb : Below w.heap.size w w') : World.forms w' g L := fun k x hk =>
  ⟨(hb.cell (p := ⟨g, 2 * k, none⟩) hg).trans (h k x hk).1, (hb.cell (p := ⟨g, 2 * k + 1, none⟩) hg).trans (h k x hk).2⟩
set_option maxRecDepth 100000 in
set_option maxHeartbeats 4000000 in
theorem valid_any (L : List (Bool × ByteArray)) (g : Nat) (hL : L.length ≤ 10) (hs : ∀ x ∈ L, x.2.size ≤ maxLen) (w : World) (hg : World.forms w g L) (hgl : g < w.heap.size) :
    Calls Try.prog 76 #[.slice (some ⟨g, 0, none⟩) L.length L.length] w fun e w' => e = .returned (.bool (L.all fun x => validB x.1 x.2)) ∧ Below w.heap.size w w' := by
  obtain ⟨R, hR⟩ : ∃ R, R = L.all fun x => validB x.1 x.2 := ⟨_, rfl⟩
  rw [← hR]
  obtain ⟨n, hn⟩ : ∃ n, n = L.length := ⟨_, rfl⟩
  rw [← hn] at hL ⊢
  have HR := Lib.hid hR
  have HN := Lib.hid hn
  have HG : Hid (World.forms w g L) := hg
  have HS := Lib.hid hs
  clear hR hn hg hs
  go_enter Try.func76, Try.ntmps76
  go_wp2_with fail
  go_loopw [7] (fun iv wr => ∃ k : Nat, k ≤ n ∧ iv = .int .i64 (k : Int) ∧ Hid ((L.take k).all (fun x => validB x.1 x.2) = true) ∧ Hid (Below w.heap.size w wr)) (fun iv _ => n - (intOf iv).toNat)
  case atStart => exact ⟨0, Nat.zero_le _, rfl, rfl, Below.refl _ _⟩
  case round =>
    obtain ⟨k, hk, rfl, hT, hB⟩ := hrel
    by_cases hlt : k < n
    · have hx : L[k]? = some (L[k]'(by rw [← HN.out]; exact hlt)) := List.getElem?_eq_getElem _
      obtain ⟨x, ex⟩ : ∃ x, x = L[k]'(by rw [← HN.out]; exact hlt) := ⟨_, rfl⟩
      rw [← ex] at hx
      obtain ⟨c0, c1⟩ := forms_below HG.out hgl hB.out k x hx
      have hs63 : x.2.size ≤ maxLen := HS.out x (List.mem_of_getElem? hx)
      have hts : (L.take (k + 1)).all (fun x => validB x.1 x.2) = ((L.take k).all (fun x => validB x.1 x.2) && validB x.1 x.2) := by
        rw [List.take_add_one, hx, List.all_append]; simp
      have HTS := Lib.hid hts
      have HX := Lib.hid hx
      have ek2 : k * 2 + 1 = 2 * k + 1 := by omega
      have ek3 : k * 2 = 2 * k := by omega
      have hszb := hB.out.size
      have HVAL : Hid (∀ W : World, Calls Try.prog 52 #[.agg #[.bool x.1, .string x.2]] W fun e w' => e = .returned (.bool (validB x.1 x.2)) ∧ Below W.heap.size W w') := Valid_wide x.1 x.2 hs63
      clear hts hx ex hs63
      obtain ⟨x1, x2⟩ := x
      dsimp only at c0 c1
      cases hv : validB x1 x2 with
      | false =>
        have hre : R = false := by
          rw [HR.out, Bool.eq_false_iff]
          intro h
          have := List.all_eq_true.1 h _ (List.mem_of_getElem? HX.out)
          rw [hv] at this; cases this
        subst hre
        dsimp only at HVAL
        rw [hv] at HVAL
        clear hv
        go_wp2_with fail
        (with_reducible refine (HVAL.out _).mono ?_)
        rintro e w3 ⟨rfl, hb3⟩
        have HB3 := Lib.hid (hB.out.trans (((Below.refl wr.heap.size wr).alloc (Nat.le_refl _) (.cells #[.bool x1, .string x2] 38)).trans (hb3.mono (by simp)) |>.mono hszb))
        clear hb3
        go_wp2
        go_ret
        exact ⟨rfl, HB3.out⟩
      | true =>
        dsimp only at HVAL HTS
        rw [hv] at HVAL HTS
        clear hv
        go_wp2_with fail
        (with_reducible refine (HVAL.out _).mono ?_)
        rintro e w3 ⟨rfl, hb3⟩
        have HB3 := Lib.hid (hB.out.trans (((Below.refl wr.heap.size wr).alloc (Nat.le_refl _) (.cells #[.bool x1, .string x2] 38)).trans (hb3.mono (by simp)) |>.mono hszb))
        clear hb3
        go_wp2
        go_roundw
        case rel => exact ⟨k + 1, by omega, by go_num, by show _ = _; rw [HTS.out, hT.out]; rfl, HB3.out⟩
        case measure => simp [intOf]; omega
    · obtain rfl : k = n := by omega
      have hre : R = true := by
        rw [HR.out]
        have := hT.out
        rwa [HN.out, List.take_length] at this
      subst hre
      go_wp2
      go_ret
      exact ⟨rfl, hB.out⟩
theorem str_facts (s : ByteArray) (h0 : s.size ≠ 0) : ¬ s = (⟨#[]⟩ : ByteArray) ∧ s.toList.isEmpty = false := by
  refine ⟨fun h => h0 (by rw [h]; rfl), ?_⟩
  rw [ByteArray.toList_eq]
  cases hl : s.data.toList with
  | nil =>
    exfalso
    apply h0
    show s.data.size = 0
    rw [← Array.length_toList, hl]; rfl
  | cons a l => rfl
theorem str_empty (s : ByteArray) (h0 : s.size = 0) : s = ⟨#[]⟩ := by
  apply ByteArray.ext
  exact Array.eq_empty_of_size_eq_zero h0
def posB (neg : Bool) (s : ByteArray) : Bool := validB neg s && (decide (s.size ≠ 0) && !neg)
set_option maxRecDepth 100000 in
set_option maxHeartbeats 4000000 in
theorem positive_any (neg : Bool) (s : ByteArray) (hs : s.size ≤ maxLen) (w : World) :
    Calls Try.prog 96 #[.agg #[.bool neg, .string s]] w fun e w' => e = .returned (.bool (posB neg s)) ∧ Below w.heap.size w w' := by
  have HVAL : Hid (∀ W : World, Calls Try.prog 52 #[.agg #[.bool neg, .string s]] W fun e w' => e = .returned (.bool (validB neg s)) ∧ Below W.heap.size W w') := Valid_wide neg s hs
  obtain ⟨R, hR⟩ : ∃ R, R = posB neg s := ⟨_, rfl⟩
  rw [← hR]
  unfold posB at hR
  have hb0 := (Below.refl w.heap.size w).alloc (Nat.le_refl _) (.cells #[.bool neg, .string s] 38)
  have HB0 := Lib.hid hb0
  clear hb0
  cases hv : validB neg s with
  | false =>
    rw [hv] at HVAL hR
    have hre : R = false := hR
    subst hre
    clear hv hR
    go_enter Try.func96, Try.ntmps96
    go_wp2_with fail
    (with_reducible refine (HVAL.out _).mono ?_)
    rintro e w3 ⟨rfl, hb3⟩
    have HB3 := Lib.hid (HB0.out.trans (hb3.mono (by simp)))
    clear hb3
    go_wp2
    go_ret
    exact ⟨rfl, HB3.out⟩
  | true =>
    rw [hv, Bool.true_and] at hR
    rw [hv] at HVAL
    clear hv
    by_cases h0 : s.size = 0
    · have hre : R = false := by rw [hR, decide_eq_false (by omega)]; rfl
      obtain rfl := str_empty s h0
      subst hre
      clear hR h0
      go_enter Try.func96, Try.ntmps96
      go_wp2_with fail
      (with_reducible refine (HVAL.out _).mono ?_)
      rintro e w3 ⟨rfl, hb3⟩
      obtain ⟨c0, c1, f0⟩ := wide_cells ((hb3.block w.heap.size (by simp)).trans (heap_alloc_new w _))
      have HB3 := Lib.hid (HB0.out.trans (hb3.mono (by simp)))
      clear hb3
      go_wp2
      go_ret
      exact ⟨rfl, HB3.out⟩
    · obtain ⟨hns, hem⟩ := str_facts s h0
      have hre : R = !neg := by rw [hR, decide_eq_true (by omega)]; rfl
      subst hre
      clear hR h0
      go_enter Try.func96, Try.ntmps96
      go_wp2_with fail
      (with_reducible refine (HVAL.out _).mono ?_)
      rintro e w3 ⟨rfl, hb3⟩
      obtain ⟨c0, c1, f0⟩ := wide_cells ((hb3.block w.heap.size (by simp)).trans (heap_alloc_new w _))
      have HB3 := Lib.hid (HB0.out.trans (hb3.mono (by simp)))
      clear hb3
      go_wp2
      go_ret
      exact ⟨rfl, HB3.out⟩
end Go.Proofs.Ytnjblppapmflhaa

/- Wide integers: helpers and walks, in one text (XR1 XR2 XR3 XR4 XR5). -/
/- The reference's numbers: words of 16 bits: compared, their sum, their difference. -/
namespace Go.Proofs.Ytnjblppapmflhaa
set_option linter.all false
open Go.RowKit Go.Shelf Go.WideNum
/-- A number of the reference in memory. -/
abbrev World.numH (w : World) (v : Value) (n : Nat) : Prop := w.reads w.heap.size v ((hw n).map u32V)
/-- One with zeros at its end: L words. -/
abbrev World.rawH (w : World) (v : Value) (n L : Nat) : Prop := w.reads w.heap.size v (((List.range L).map (dig 65536 n)).map u32V)
def HRet (w : World) (n : Nat) (e : Ending) (w' : World) : Prop := ∃ v, e = .returned v ∧ World.numH w' v n ∧ Below w.heap.size w w'
def RawRet (w : World) (n L : Nat) (e : Ending) (w' : World) : Prop := ∃ v, e = .returned v ∧ World.rawH w' v n L ∧ Below w.heap.size w w'
theorem hw_range (n : Nat) : (List.range (hw n).length).map (dig 65536 n) = hw n := by
  apply List.ext_getElem?
  intro i
  rcases Nat.lt_or_ge i (hw n).length with h | h
  · rw [hw_get n i h]; simp [h]
  · rw [List.getElem?_eq_none (by simpa using h), List.getElem?_eq_none h]
theorem numH_below {w w' : World} {v : Value} {n : Nat} (h : World.numH w v n) (hb : Below w.heap.size w w') : World.numH w' v n := (World.reads.below h hb).mono hb.size
theorem rawH_below {w w' : World} {v : Value} {n L : Nat} (h : World.rawH w v n L) (hb : Below w.heap.size w w') : World.rawH w' v n L := (World.reads.below h hb).mono hb.size
theorem numH_raw {w : World} {v : Value} {n : Nat} (h : World.numH w v n) : World.rawH w v n (hw n).length := by
  show w.reads _ _ _
  rw [hw_range]; exact h
theorem rawH_num {w : World} {v : Value} {n L : Nat} (h : World.rawH w v n L) (hL : L = (hw n).length) : World.numH w v n := by
  subst hL
  have h : w.reads _ _ _ := h
  rw [hw_range] at h; exact h
theorem hw_len_lt {A C : Nat} (h : (hw A).length < (hw C).length) : A < C := by
  rcases Nat.lt_or_ge A C with h1 | h1
  · exact h1
  · have h2 := words_length (B := 65536) (by omega) C (hw A).length (Nat.lt_of_le_of_lt h1 (hw_vlt A))
    unfold hw at h h2
    omega
theorem hw_len_ge {n k : Nat} (h : k < (hw n).length) : 65536 ^ k ≤ n := by
  rcases Nat.lt_or_ge n (65536 ^ k) with h1 | h1
  · have := words_length (B := 65536) (by omega) n k h1
    unfold hw at h; omega
  · exact h1
theorem hw_len_le {n k : Nat} (h : n < 65536 ^ k) : (hw n).length ≤ k := words_length (by omega) n k h
theorem cmpTo_hw (A C k : Nat) (h1 : k = (hw A).length) (h2 : k = (hw C).length) : cmpTo (hw A) (hw C) k = cmpN A C := by
  rw [cmpTo_val 65536 (by omega) (hw A) (hw C) (words_lt (by omega) A A) (words_lt (by omega) C C) k (by omega) (by omega), List.take_of_length_le (by omega), List.take_of_length_le (by omega), valW_hw, valW_hw]
  rfl
/-- The words that a contract asks for, one by one. -/
theorem numH_words {w : World} {v : Value} {n : Nat} (h : World.numH w v n) : ∃ (a : Option Addr) (p c : Nat), p = (hw n).length ∧ v = .slice a p c ∧ p ≤ c ∧ c ≤ maxLen ∧
    ∀ k, k < p → ∃ b off, a = some ⟨b, off, none⟩ ∧ b < w.heap.size ∧ w.cell? ⟨b, off + k, none⟩ = some (.int .u32 (dig 65536 n k : Int)) := by
  obtain ⟨a, c, rfl, hc, hm, hs⟩ := reads_u32 h
  exact ⟨a, _, c, rfl, rfl, hc, hm, fun k hk => hs k _ (hw_get n k hk)⟩
theorem owns_nil (w : World) (base : Nat) (T : TypeId) : w.owns base T 1 (.slice none 0 0) 0 [] := ⟨rfl, .inl ⟨rfl, rfl⟩⟩
set_option maxRecDepth 100000 in
set_option maxHeartbeats 4000000 in
theorem order_num (A C : Nat) (va vb : Value) (w : World) (hA : World.numH w va A) (hC : World.numH w vb C) (hla : (hw A).length ≤ 4000) (hlc : (hw C).length ≤ 4000) :
    Calls Try.prog 85 #[va, vb] w fun e w' => e = .returned (.int .i64 (cmpN A C)) ∧ ∃ n, w' = w.drewN n := by
  obtain ⟨aa, p, ca, hp, rfl, hca, hma, hsa⟩ := numH_words hA
  obtain ⟨ab, q, cb, hq, rfl, hcb, hmb, hsb⟩ := numH_words hC
  clear hA hC
  rw [← hp] at hla
  rw [← hq] at hlc
  obtain ⟨R, hR⟩ : ∃ R, R = cmpN A C := ⟨_, rfl⟩
  rw [← hR]
  have HA := Lib.hid hsa
  have HC := Lib.hid hsb
  clear hsa hsb
  rcases Nat.lt_trichotomy p q with h | h | h
  · have h1 : (p : Int) < (q : Int) := by omega
    have h2 : ((p : Int) != (q : Int)) = true := by rw [bne_iff_ne]; omega
    have hre : R = -1 := by rw [hR, cmpN, if_pos (hw_len_lt (by omega))]
    subst hre
    clear h hp hq hR
    go_enter Try.func85, Try.ntmps85
    go_wp2
    go_ret
    exact ⟨rfl, 0, rfl⟩
  · subst h
    have hre : Hid (R = cmpTo (hw A) (hw C) p) := by show _ = _; rw [hR, cmpTo_hw A C p hp hq]
    have h2 : ((p : Int) != (p : Int)) = false := by simp
    have HPA := Lib.hid hp
    have HPC := Lib.hid hq
    clear hR hp hq
    go_enter Try.func85, Try.ntmps85
    go_wp2_with fail
    go_loopw [5] (fun iv wr => ∃ (k n : Nat), k ≤ p ∧ iv = .int .i64 ((k : Int) - 1) ∧ Hid (R = cmpTo (hw A) (hw C) k) ∧ wr = w.drewN n) (fun iv _ => (intOf iv + 1).toNat)
    case atStart => exact ⟨p, 0, Nat.le_refl _, rfl, hre.out, rfl⟩
    case round =>
      obtain ⟨k, n, hk, rfl, hT, hwr⟩ := hrel
      cases k with
      | zero =>
        have hre0 : R = 0 := hT.out
        subst hre0
        have h0 : ¬ (0 : Int) ≤ ((0 : Nat) : Int) - 1 := by omega
        go_wp2
        go_ret
        exact ⟨rfl, n, by first | exact hwr | rfl⟩
      | succ j =>
        rw [show ((j + 1 : Nat) : Int) - 1 = (j : Int) by omega]
        obtain ⟨ba, oa, rfl, hba, cx⟩ := HA.out j (by omega)
        obtain ⟨bb, ob, rfl, hbb, cy⟩ := HC.out j (by omega)
        have hst : Hid (R = if dig 65536 A j < dig 65536 C j then -1 else if dig 65536 C j < dig 65536 A j then 1 else cmpTo (hw A) (hw C) j) := by
          show _ = _
          rw [hT.out, cmpTo, List.getD_eq_getElem?_getD, List.getD_eq_getElem?_getD, hw_get A j (by have := HPA.out; omega), hw_get C j (by have := HPC.out; omega)]; rfl
        obtain ⟨x, ex⟩ : ∃ x, x = dig 65536 A j := ⟨_, rfl⟩
        obtain ⟨y, ey⟩ : ∃ x, x = dig 65536 C j := ⟨_, rfl⟩
        rw [← ex] at cx hst
        rw [← ey] at cy hst
        have kx : wr.cell? ⟨ba, oa + j, none⟩ = some (.int .u32 (x : Int)) := by rw [hwr]; exact cx
        have ky : wr.cell? ⟨bb, ob + j, none⟩ = some (.int .u32 (y : Int)) := by rw [hwr]; exact cy
        have HW := Lib.hid hwr
        have hjp : j < p := by omega
        have hjp' : (j : Int) < (p : Int) := by omega
        clear ex ey cx cy hwr
        rcases Nat.lt_trichotomy x y with h | h | h
        · have t0 : ((x : Int) != (y : Int)) = true := by rw [bne_iff_ne]; omega
          have t1 : decide ((x : Int) < (y : Int)) = true := decide_eq_true (by omega)
          have hre1 : R = -1 := by rw [hst.out, if_pos h]
          subst hre1
          go_wp2_with fail
          refine wp_region_heldL (fun w' => w'.cell? ⟨ba, oa + j, none⟩ = some (.int .u32 (x : Int)) ∧ w'.cell? ⟨bb, ob + j, none⟩ = some (.int .u32 (y : Int))) (by kernel_rfl) ⟨kx, ky⟩ (fun hS => ?_)
          refine wpAnyH_takeL 0 (v := ?_) (by kernel_rfl) rfl (by kernel_rfl) (by kernel_rfl) (fun _ _ _ h => h) (Or.inl ⟨by rfl, ?_⟩) (by assumption) ?_
          rotate_left
          · (intro wq hSq; (try dsimp only at hSq); go_simp; try with_reducible rfl)
          try simp only [Act.put, List.setIfInBounds_toArray, List.set_cons_zero, List.set_cons_succ]
          refine wpAnyH_takeL 1 (v := ?_) (by kernel_rfl) rfl (by kernel_rfl) (by kernel_rfl) (fun _ _ _ h => h) (Or.inl ⟨by rfl, ?_⟩) (by assumption) ?_
          rotate_left
          · (intro wq hSq; (try dsimp only at hSq); go_simp; try with_reducible rfl)
          try simp only [Act.put, List.setIfInBounds_toArray, List.set_cons_zero, List.set_cons_succ]
          refine wpAnyH_takeL 2 (v := ?_) (by kernel_rfl) rfl (by kernel_rfl) (by kernel_rfl) (fun _ _ _ h => h) (Or.inl ⟨by rfl, ?_⟩) (by assumption) ?_
          rotate_left
          · (intro wq hSq; (try dsimp only at hSq); go_simp; try with_reducible rfl)
          try simp only [Act.put, List.setIfInBounds_toArray, List.set_cons_zero, List.set_cons_succ]
          refine wpAnyH_takeL 3 (v := ?_) (by kernel_rfl) rfl (by kernel_rfl) (by kernel_rfl) (fun _ _ _ h => h) (Or.inl ⟨by rfl, ?_⟩) (by assumption) ?_
          rotate_left
          · (intro wq hSq; (try dsimp only at hSq); go_simp; try with_reducible rfl)
          try simp only [Act.put, List.setIfInBounds_toArray, List.set_cons_zero, List.set_cons_succ]
          refine wpAnyH_takeL 4 (v := ?_) (by kernel_rfl) rfl (by kernel_rfl) (by kernel_rfl) (fun _ _ _ h => h) (Or.inl ⟨by rfl, ?_⟩) (by assumption) ?_
          rotate_left
          · (intro wq hSq; (try dsimp only at hSq); go_simp; try with_reducible rfl)
          try simp only [Act.put, List.setIfInBounds_toArray, List.set_cons_zero, List.set_cons_succ]
          refine wpAnyH_takeL 5 (v := ?_) (by kernel_rfl) rfl (by kernel_rfl) (by kernel_rfl) (fun _ _ _ h => h) (Or.inl ⟨by rfl, ?_⟩) (by assumption) ?_
          rotate_left
          · (intro wq hSq; (try dsimp only at hSq); go_simp; try with_reducible rfl)
          try simp only [Act.put, List.setIfInBounds_toArray, List.set_cons_zero, List.set_cons_succ]
          refine wpAnyH_takeL 6 (v := ?_) (by kernel_rfl) rfl (by kernel_rfl) (by kernel_rfl) (fun _ _ _ h => h) (Or.inl ⟨by rfl, ?_⟩) (by assumption) ?_
          rotate_left
          · (intro wq hSq; (try dsimp only at hSq); go_simp; try with_reducible rfl)
          try simp only [Act.put, List.setIfInBounds_toArray, List.set_cons_zero, List.set_cons_succ]
          refine wpAnyH_takeL 7 (v := ?_) (by kernel_rfl) rfl (by kernel_rfl) (by kernel_rfl) (fun _ _ _ h => h) (Or.inl ⟨by rfl, ?_⟩) (by assumption) ?_
          rotate_left
          · (intro wq hSq; (try dsimp only at hSq); go_simp; try with_reducible rfl)
          try simp only [Act.put, List.setIfInBounds_toArray, List.set_cons_zero, List.set_cons_succ]
          refine wpAnyH_takeL 8 (v := ?_) (by kernel_rfl) rfl (by kernel_rfl) (by kernel_rfl) (fun _ _ _ h => h) (Or.inl ⟨by rfl, ?_⟩) (by assumption) ?_
          rotate_left
          · (intro wq hSq; (try dsimp only at hSq); go_simp; try with_reducible rfl)
          try simp only [Act.put, List.setIfInBounds_toArray, List.set_cons_zero, List.set_cons_succ]
          refine wpAnyH_end (by kernel_rfl) ?_
          go_wp2_with fail
          refine wp_region_heldL (fun w' => w'.cell? ⟨ba, oa + j, none⟩ = some (.int .u32 (x : Int)) ∧ w'.cell? ⟨bb, ob + j, none⟩ = some (.int .u32 (y : Int))) (by kernel_rfl) ⟨kx, ky⟩ (fun hS => ?_)
          refine wpAnyH_takeL 0 (v := ?_) (by kernel_rfl) rfl (by kernel_rfl) (by kernel_rfl) (fun _ _ _ h => h) (Or.inl ⟨by rfl, ?_⟩) (by assumption) ?_
          rotate_left
          · (intro wq hSq; (try dsimp only at hSq); go_simp; try with_reducible rfl)
          try simp only [Act.put, List.setIfInBounds_toArray, List.set_cons_zero, List.set_cons_succ]
          refine wpAnyH_takeL 1 (v := ?_) (by kernel_rfl) rfl (by kernel_rfl) (by kernel_rfl) (fun _ _ _ h => h) (Or.inl ⟨by rfl, ?_⟩) (by assumption) ?_
          rotate_left
          · (intro wq hSq; (try dsimp only at hSq); go_simp; try with_reducible rfl)
          try simp only [Act.put, List.setIfInBounds_toArray, List.set_cons_zero, List.set_cons_succ]
          refine wpAnyH_takeL 2 (v := ?_) (by kernel_rfl) rfl (by kernel_rfl) (by kernel_rfl) (fun _ _ _ h => h) (Or.inl ⟨by rfl, ?_⟩) (by assumption) ?_
          rotate_left
          · (intro wq hSq; (try dsimp only at hSq); go_simp; try with_reducible rfl)
          try simp only [Act.put, List.setIfInBounds_toArray, List.set_cons_zero, List.set_cons_succ]
          refine wpAnyH_takeL 3 (v := ?_) (by kernel_rfl) rfl (by kernel_rfl) (by kernel_rfl) (fun _ _ _ h => h) (Or.inl ⟨by rfl, ?_⟩) (by assumption) ?_
          rotate_left
          · (intro wq hSq; (try dsimp only at hSq); go_simp; try with_reducible rfl)
          try simp only [Act.put, List.setIfInBounds_toArray, List.set_cons_zero, List.set_cons_succ]
          refine wpAnyH_takeL 4 (v := ?_) (by kernel_rfl) rfl (by kernel_rfl) (by kernel_rfl) (fun _ _ _ h => h) (Or.inl ⟨by rfl, ?_⟩) (by assumption) ?_
          rotate_left
          · (intro wq hSq; (try dsimp only at hSq); go_simp; try with_reducible rfl)
          try simp only [Act.put, List.setIfInBounds_toArray, List.set_cons_zero, List.set_cons_succ]
          refine wpAnyH_takeL 5 (v := ?_) (by kernel_rfl) rfl (by kernel_rfl) (by kernel_rfl) (fun _ _ _ h => h) (Or.inl ⟨by rfl, ?_⟩) (by assumption) ?_
          rotate_left
          · (intro wq hSq; (try dsimp only at hSq); go_simp; try with_reducible rfl)
          try simp only [Act.put, List.setIfInBounds_toArray, List.set_cons_zero, List.set_cons_succ]
          refine wpAnyH_takeL 6 (v := ?_) (by kernel_rfl) rfl (by kernel_rfl) (by kernel_rfl) (fun _ _ _ h => h) (Or.inl ⟨by rfl, ?_⟩) (by assumption) ?_
          rotate_left
          · (intro wq hSq; (try dsimp only at hSq); go_simp; try with_reducible rfl)
          try simp only [Act.put, List.setIfInBounds_toArray, List.set_cons_zero, List.set_cons_succ]
          refine wpAnyH_takeL 7 (v := ?_) (by kernel_rfl) rfl (by kernel_rfl) (by kernel_rfl) (fun _ _ _ h => h) (Or.inl ⟨by rfl, ?_⟩) (by assumption) ?_
          rotate_left
          · (intro wq hSq; (try dsimp only at hSq); go_simp; try with_reducible rfl)
          try simp only [Act.put, List.setIfInBounds_toArray, List.set_cons_zero, List.set_cons_succ]
          refine wpAnyH_takeL 8 (v := ?_) (by kernel_rfl) rfl (by kernel_rfl) (by kernel_rfl) (fun _ _ _ h => h) (Or.inl ⟨by rfl, ?_⟩) (by assumption) ?_
          rotate_left
          · (intro wq hSq; (try dsimp only at hSq); go_simp; try with_reducible rfl)
          try simp only [Act.put, List.setIfInBounds_toArray, List.set_cons_zero, List.set_cons_succ]
          refine wpAnyH_end (by kernel_rfl) ?_
          go_wp2
          go_ret
          exact ⟨rfl, n + 1 + 1, by rw [HW.out]; rfl⟩
        · subst h
          have t0 : ((x : Int) != (x : Int)) = false := by simp
          have HREJ : Hid (R = cmpTo (hw A) (hw C) j) := by show _ = _; rw [hst.out, if_neg (by omega), if_neg (by omega)]
          go_wp2_with fail
          refine wp_region_heldL (fun w' => w'.cell? ⟨ba, oa + j, none⟩ = some (.int .u32 (x : Int)) ∧ w'.cell? ⟨bb, ob + j, none⟩ = some (.int .u32 (x : Int))) (by kernel_rfl) ⟨kx, ky⟩ (fun hS => ?_)
          refine wpAnyH_takeL 0 (v := ?_) (by kernel_rfl) rfl (by kernel_rfl) (by kernel_rfl) (fun _ _ _ h => h) (Or.inl ⟨by rfl, ?_⟩) (by assumption) ?_
          rotate_left
          · (intro wq hSq; (try dsimp only at hSq); go_simp; try with_reducible rfl)
          try simp only [Act.put, List.setIfInBounds_toArray, List.set_cons_zero, List.set_cons_succ]
          refine wpAnyH_takeL 1 (v := ?_) (by kernel_rfl) rfl (by kernel_rfl) (by kernel_rfl) (fun _ _ _ h => h) (Or.inl ⟨by rfl, ?_⟩) (by assumption) ?_
          rotate_left
          · (intro wq hSq; (try dsimp only at hSq); go_simp; try with_reducible rfl)
          try simp only [Act.put, List.setIfInBounds_toArray, List.set_cons_zero, List.set_cons_succ]
          refine wpAnyH_takeL 2 (v := ?_) (by kernel_rfl) rfl (by kernel_rfl) (by kernel_rfl) (fun _ _ _ h => h) (Or.inl ⟨by rfl, ?_⟩) (by assumption) ?_
          rotate_left
          · (intro wq hSq; (try dsimp only at hSq); go_simp; try with_reducible rfl)
          try simp only [Act.put, List.setIfInBounds_toArray, List.set_cons_zero, List.set_cons_succ]
          refine wpAnyH_takeL 3 (v := ?_) (by kernel_rfl) rfl (by kernel_rfl) (by kernel_rfl) (fun _ _ _ h => h) (Or.inl ⟨by rfl, ?_⟩) (by assumption) ?_
          rotate_left
          · (intro wq hSq; (try dsimp only at hSq); go_simp; try with_reducible rfl)
          try simp only [Act.put, List.setIfInBounds_toArray, List.set_cons_zero, List.set_cons_succ]
          refine wpAnyH_takeL 4 (v := ?_) (by kernel_rfl) rfl (by kernel_rfl) (by kernel_rfl) (fun _ _ _ h => h) (Or.inl ⟨by rfl, ?_⟩) (by assumption) ?_
          rotate_left
          · (intro wq hSq; (try dsimp only at hSq); go_simp; try with_reducible rfl)
          try simp only [Act.put, List.setIfInBounds_toArray, List.set_cons_zero, List.set_cons_succ]
          refine wpAnyH_takeL 5 (v := ?_) (by kernel_rfl) rfl (by kernel_rfl) (by kernel_rfl) (fun _ _ _ h => h) (Or.inl ⟨by rfl, ?_⟩) (by assumption) ?_
          rotate_left
          · (intro wq hSq; (try dsimp only at hSq); go_simp; try with_reducible rfl)
          try simp only [Act.put, List.setIfInBounds_toArray, List.set_cons_zero, List.set_cons_succ]
          refine wpAnyH_takeL 6 (v := ?_) (by kernel_rfl) rfl (by kernel_rfl) (by kernel_rfl) (fun _ _ _ h => h) (Or.inl ⟨by rfl, ?_⟩) (by assumption) ?_
          rotate_left
          · (intro wq hSq; (try dsimp only at hSq); go_simp; try with_reducible rfl)
          try simp only [Act.put, List.setIfInBounds_toArray, List.set_cons_zero, List.set_cons_succ]
          refine wpAnyH_takeL 7 (v := ?_) (by kernel_rfl) rfl (by kernel_rfl) (by kernel_rfl) (fun _ _ _ h => h) (Or.inl ⟨by rfl, ?_⟩) (by assumption) ?_
          rotate_left
          · (intro wq hSq; (try dsimp only at hSq); go_simp; try with_reducible rfl)
          try simp only [Act.put, List.setIfInBounds_toArray, List.set_cons_zero, List.set_cons_succ]
          refine wpAnyH_takeL 8 (v := ?_) (by kernel_rfl) rfl (by kernel_rfl) (by kernel_rfl) (fun _ _ _ h => h) (Or.inl ⟨by rfl, ?_⟩) (by assumption) ?_
          rotate_left
          · (intro wq hSq; (try dsimp only at hSq); go_simp; try with_reducible rfl)
          try simp only [Act.put, List.setIfInBounds_toArray, List.set_cons_zero, List.set_cons_succ]
          refine wpAnyH_end (by kernel_rfl) ?_
          go_wp2
          go_roundw
          case rel => exact ⟨j, n + 1, by omega, rfl, HREJ.out, by rw [HW.out]; rfl⟩
          case measure => first | (simp [intOf]; done) | (simp [intOf]; omega)
        · have t0 : ((x : Int) != (y : Int)) = true := by rw [bne_iff_ne]; omega
          have t1 : decide ((x : Int) < (y : Int)) = false := decide_eq_false (by omega)
          have hre1 : R = 1 := by rw [hst.out, if_neg (by omega), if_pos h]
          subst hre1
          go_wp2_with fail
          refine wp_region_heldL (fun w' => w'.cell? ⟨ba, oa + j, none⟩ = some (.int .u32 (x : Int)) ∧ w'.cell? ⟨bb, ob + j, none⟩ = some (.int .u32 (y : Int))) (by kernel_rfl) ⟨kx, ky⟩ (fun hS => ?_)
          refine wpAnyH_takeL 0 (v := ?_) (by kernel_rfl) rfl (by kernel_rfl) (by kernel_rfl) (fun _ _ _ h => h) (Or.inl ⟨by rfl, ?_⟩) (by assumption) ?_
          rotate_left
          · (intro wq hSq; (try dsimp only at hSq); go_simp; try with_reducible rfl)
          try simp only [Act.put, List.setIfInBounds_toArray, List.set_cons_zero, List.set_cons_succ]
          refine wpAnyH_takeL 1 (v := ?_) (by kernel_rfl) rfl (by kernel_rfl) (by kernel_rfl) (fun _ _ _ h => h) (Or.inl ⟨by rfl, ?_⟩) (by assumption) ?_
          rotate_left
          · (intro wq hSq; (try dsimp only at hSq); go_simp; try with_reducible rfl)
          try simp only [Act.put, List.setIfInBounds_toArray, List.set_cons_zero, List.set_cons_succ]
          refine wpAnyH_takeL 2 (v := ?_) (by kernel_rfl) rfl (by kernel_rfl) (by kernel_rfl) (fun _ _ _ h => h) (Or.inl ⟨by rfl, ?_⟩) (by assumption) ?_
          rotate_left
          · (intro wq hSq; (try dsimp only at hSq); go_simp; try with_reducible rfl)
          try simp only [Act.put, List.setIfInBounds_toArray, List.set_cons_zero, List.set_cons_succ]
          refine wpAnyH_takeL 3 (v := ?_) (by kernel_rfl) rfl (by kernel_rfl) (by kernel_rfl) (fun _ _ _ h => h) (Or.inl ⟨by rfl, ?_⟩) (by assumption) ?_
          rotate_left
          · (intro wq hSq; (try dsimp only at hSq); go_simp; try with_reducible rfl)
          try simp only [Act.put, List.setIfInBounds_toArray, List.set_cons_zero, List.set_cons_succ]
          refine wpAnyH_takeL 4 (v := ?_) (by kernel_rfl) rfl (by kernel_rfl) (by kernel_rfl) (fun _ _ _ h => h) (Or.inl ⟨by rfl, ?_⟩) (by assumption) ?_
          rotate_left
          · (intro wq hSq; (try dsimp only at hSq); go_simp; try with_reducible rfl)
          try simp only [Act.put, List.setIfInBounds_toArray, List.set_cons_zero, List.set_cons_succ]
          refine wpAnyH_takeL 5 (v := ?_) (by kernel_rfl) rfl (by kernel_rfl) (by kernel_rfl) (fun _ _ _ h => h) (Or.inl ⟨by rfl, ?_⟩) (by assumption) ?_
          rotate_left
          · (intro wq hSq; (try dsimp only at hSq); go_simp; try with_reducible rfl)
          try simp only [Act.put, List.setIfInBounds_toArray, List.set_cons_zero, List.set_cons_succ]
          refine wpAnyH_takeL 6 (v := ?_) (by kernel_rfl) rfl (by kernel_rfl) (by kernel_rfl) (fun _ _ _ h => h) (Or.inl ⟨by rfl, ?_⟩) (by assumption) ?_
          rotate_left
          · (intro wq hSq; (try dsimp only at hSq); go_simp; try with_reducible rfl)
          try simp only [Act.put, List.setIfInBounds_toArray, List.set_cons_zero, List.set_cons_succ]
          refine wpAnyH_takeL 7 (v := ?_) (by kernel_rfl) rfl (by kernel_rfl) (by kernel_rfl) (fun _ _ _ h => h) (Or.inl ⟨by rfl, ?_⟩) (by assumption) ?_
          rotate_left
          · (intro wq hSq; (try dsimp only at hSq); go_simp; try with_reducible rfl)
          try simp only [Act.put, List.setIfInBounds_toArray, List.set_cons_zero, List.set_cons_succ]
          refine wpAnyH_takeL 8 (v := ?_) (by kernel_rfl) rfl (by kernel_rfl) (by kernel_rfl) (fun _ _ _ h => h) (Or.inl ⟨by rfl, ?_⟩) (by assumption) ?_
          rotate_left
          · (intro wq hSq; (try dsimp only at hSq); go_simp; try with_reducible rfl)
          try simp only [Act.put, List.setIfInBounds_toArray, List.set_cons_zero, List.set_cons_succ]
          refine wpAnyH_end (by kernel_rfl) ?_
          go_wp2_with fail
          refine wp_region_heldL (fun w' => w'.cell? ⟨ba, oa + j, none⟩ = some (.int .u32 (x : Int)) ∧ w'.cell? ⟨bb, ob + j, none⟩ = some (.int .u32 (y : Int))) (by kernel_rfl) ⟨kx, ky⟩ (fun hS => ?_)
          refine wpAnyH_takeL 0 (v := ?_) (by kernel_rfl) rfl (by kernel_rfl) (by kernel_rfl) (fun _ _ _ h => h) (Or.inl ⟨by rfl, ?_⟩) (by assumption) ?_
          rotate_left
          · (intro wq hSq; (try dsimp only at hSq); go_simp; try with_reducible rfl)
          try simp only [Act.put, List.setIfInBounds_toArray, List.set_cons_zero, List.set_cons_succ]
          refine wpAnyH_takeL 1 (v := ?_) (by kernel_rfl) rfl (by kernel_rfl) (by kernel_rfl) (fun _ _ _ h => h) (Or.inl ⟨by rfl, ?_⟩) (by assumption) ?_
          rotate_left
          · (intro wq hSq; (try dsimp only at hSq); go_simp; try with_reducible rfl)
          try simp only [Act.put, List.setIfInBounds_toArray, List.set_cons_zero, List.set_cons_succ]
          refine wpAnyH_takeL 2 (v := ?_) (by kernel_rfl) rfl (by kernel_rfl) (by kernel_rfl) (fun _ _ _ h => h) (Or.inl ⟨by rfl, ?_⟩) (by assumption) ?_
          rotate_left
          · (intro wq hSq; (try dsimp only at hSq); go_simp; try with_reducible rfl)
          try simp only [Act.put, List.setIfInBounds_toArray, List.set_cons_zero, List.set_cons_succ]
          refine wpAnyH_takeL 3 (v := ?_) (by kernel_rfl) rfl (by kernel_rfl) (by kernel_rfl) (fun _ _ _ h => h) (Or.inl ⟨by rfl, ?_⟩) (by assumption) ?_
          rotate_left
          · (intro wq hSq; (try dsimp only at hSq); go_simp; try with_reducible rfl)
          try simp only [Act.put, List.setIfInBounds_toArray, List.set_cons_zero, List.set_cons_succ]
          refine wpAnyH_takeL 4 (v := ?_) (by kernel_rfl) rfl (by kernel_rfl) (by kernel_rfl) (fun _ _ _ h => h) (Or.inl ⟨by rfl, ?_⟩) (by assumption) ?_
          rotate_left
          · (intro wq hSq; (try dsimp only at hSq); go_simp; try with_reducible rfl)
          try simp only [Act.put, List.setIfInBounds_toArray, List.set_cons_zero, List.set_cons_succ]
          refine wpAnyH_takeL 5 (v := ?_) (by kernel_rfl) rfl (by kernel_rfl) (by kernel_rfl) (fun _ _ _ h => h) (Or.inl ⟨by rfl, ?_⟩) (by assumption) ?_
          rotate_left
          · (intro wq hSq; (try dsimp only at hSq); go_simp; try with_reducible rfl)
          try simp only [Act.put, List.setIfInBounds_toArray, List.set_cons_zero, List.set_cons_succ]
          refine wpAnyH_takeL 6 (v := ?_) (by kernel_rfl) rfl (by kernel_rfl) (by kernel_rfl) (fun _ _ _ h => h) (Or.inl ⟨by rfl, ?_⟩) (by assumption) ?_
          rotate_left
          · (intro wq hSq; (try dsimp only at hSq); go_simp; try with_reducible rfl)
          try simp only [Act.put, List.setIfInBounds_toArray, List.set_cons_zero, List.set_cons_succ]
          refine wpAnyH_takeL 7 (v := ?_) (by kernel_rfl) rfl (by kernel_rfl) (by kernel_rfl) (fun _ _ _ h => h) (Or.inl ⟨by rfl, ?_⟩) (by assumption) ?_
          rotate_left
          · (intro wq hSq; (try dsimp only at hSq); go_simp; try with_reducible rfl)
          try simp only [Act.put, List.setIfInBounds_toArray, List.set_cons_zero, List.set_cons_succ]
          refine wpAnyH_takeL 8 (v := ?_) (by kernel_rfl) rfl (by kernel_rfl) (by kernel_rfl) (fun _ _ _ h => h) (Or.inl ⟨by rfl, ?_⟩) (by assumption) ?_
          rotate_left
          · (intro wq hSq; (try dsimp only at hSq); go_simp; try with_reducible rfl)
          try simp only [Act.put, List.setIfInBounds_toArray, List.set_cons_zero, List.set_cons_succ]
          refine wpAnyH_end (by kernel_rfl) ?_
          go_wp2
          go_ret
          exact ⟨rfl, n + 1 + 1, by rw [HW.out]; rfl⟩
  · have h1 : ¬ (p : Int) < (q : Int) := by omega
    have h2 : ((p : Int) != (q : Int)) = true := by rw [bne_iff_ne]; omega
    have hlt := hw_len_lt (A := C) (C := A) (by omega)
    have hre : R = 1 := by rw [hR, cmpN, if_neg (by omega), if_pos hlt]
    subst hre
    clear h hp hq hR hlt
    go_enter Try.func85, Try.ntmps85
    go_wp2
    go_ret
    exact ⟨rfl, 0, rfl⟩
end Go.Proofs.Ytnjblppapmflhaa

/- The reference's numbers: sums and differences. -/
namespace Go.Proofs.Ytnjblppapmflhaa
set_option linter.all false
open Go.RowKit Go.Shelf Go.WideNum
/-- Where the words of a sum end. -/
theorem sum_more (A C i : Nat) : i < (hw (A + C)).length ↔ (i < (hw A).length ∨ i < (hw C).length ∨ 0 < carry 65536 A C i) := by
  constructor
  · intro h
    by_cases h1 : i < (hw A).length
    · exact .inl h1
    by_cases h2 : i < (hw C).length
    · exact .inr (.inl h2)
    refine .inr (.inr ?_)
    have e1 := Nat.lt_of_lt_of_le (hw_vlt A) (Nat.pow_le_pow_right (show 0 < 65536 by omega) (Nat.le_of_not_lt h1))
    have e2 := Nat.lt_of_lt_of_le (hw_vlt C) (Nat.pow_le_pow_right (show 0 < 65536 by omega) (Nat.le_of_not_lt h2))
    unfold carry
    rw [Nat.mod_eq_of_lt e1, Nat.mod_eq_of_lt e2]
    exact Nat.div_pos (hw_len_ge h) (Nat.pow_pos (by omega))
  · intro h
    rcases Nat.lt_or_ge i (hw (A + C)).length with h1 | h1
    · exact h1
    have e := Nat.lt_of_lt_of_le (hw_vlt (A + C)) (Nat.pow_le_pow_right (show 0 < 65536 by omega) h1)
    rcases h with h | h | h
    · have := hw_len_ge h; omega
    · have := hw_len_ge h; omega
    · have h2 : 65536 ^ i ≤ A % 65536 ^ i + C % 65536 ^ i := by
        rcases Nat.lt_or_ge (A % 65536 ^ i + C % 65536 ^ i) (65536 ^ i) with h3 | h3
        · unfold carry at h; rw [Nat.div_eq_of_lt h3] at h; omega
        · exact h3
      have h3 := Nat.mod_le A (65536 ^ i)
      have h4 := Nat.mod_le C (65536 ^ i)
      omega
set_option maxRecDepth 100000 in
set_option maxHeartbeats 4000000 in
theorem hplus_any (A C : Nat) (va vb : Value) (w : World) (hA : World.numH w va A) (hC : World.numH w vb C) (hla : (hw A).length ≤ 4000) (hlc : (hw C).length ≤ 4000) :
    Calls Try.prog 84 #[va, vb] w (HRet w (A + C)) := by
  obtain ⟨aa, p, ca, hp, rfl, hca, hma, hsa⟩ := numH_words hA
  obtain ⟨ab, q, cb, hq, rfl, hcb, hmb, hsb⟩ := numH_words hC
  clear hA hC
  rw [← hp] at hla
  rw [← hq] at hlc
  have HA := Lib.hid hsa
  have HC := Lib.hid hsb
  have HZA : Hid (∀ k, p ≤ k → dig 65536 A k = 0) := fun k hk => hw_high A k (by omega)
  have HZC : Hid (∀ k, q ≤ k → dig 65536 C k = 0) := fun k hk => hw_high C k (by omega)
  obtain ⟨L, hL⟩ : ∃ L, L = (hw (A + C)).length := ⟨_, rfl⟩
  have HMO : Hid (∀ i, i < L ↔ (i < p ∨ i < q ∨ 0 < carry 65536 A C i)) := fun i => by rw [hL, hp, hq]; exact sum_more A C i
  have HL := Lib.hid hL
  have hL2 : L ≤ 4001 := by
    obtain ⟨K, hK⟩ : ∃ K, K = 4000 := ⟨_, rfl⟩
    have e1 := Nat.lt_of_lt_of_le (hw_vlt A) (Nat.pow_le_pow_right (show 0 < 65536 by omega) (show (hw A).length ≤ K by omega))
    have e2 := Nat.lt_of_lt_of_le (hw_vlt C) (Nat.pow_le_pow_right (show 0 < 65536 by omega) (show (hw C).length ≤ K by omega))
    have h3 : A + C < 65536 ^ (K + 1) := by
      rw [Nat.pow_succ]
      generalize 65536 ^ K = P at *
      omega
    have := hw_len_le h3
    omega
  clear hp hq hsa hsb hL
  obtain ⟨HPOST, hpost⟩ : ∃ R, R = HRet w (A + C) := ⟨_, rfl⟩
  rw [← hpost]
  have HP := Lib.hid hpost
  clear hpost
  go_enter Try.func84, Try.ntmps84
  go_wp2_with fail
  go_loopw [5, 6, 7] (fun sv cv iv wr => ∃ (i : Nat) (xa : Option Addr) (xc : Nat), i ≤ L ∧ iv = .int .i64 (i : Int) ∧ sv = .slice xa i xc ∧ cv = .int .u32 (carry 65536 A C i : Int) ∧ Hid (wr.owns w.heap.size 23 1 (.slice xa i xc) i (((List.range i).map (dig 65536 (A + C))).map u32V)) ∧ Hid (Below w.heap.size w wr)) (fun _ _ iv _ => L - (intOf iv).toNat)
  case atStart => exact ⟨0, none, 0, Nat.zero_le _, rfl, rfl, by rw [carry_zero]; rfl, owns_nil _ _ _, Below.refl _ w⟩
  case round =>
    obtain ⟨i, xa, xc, hi, rfl, rfl, rfl, hO, hB⟩ := hrel
    have hz := hB.out.size
    have hmo := HMO.out i
    have HST := Lib.hid (add_step (B := 65536) (by omega) A C i)
    have hd1 := hw_dig A i
    have hd2 := hw_dig C i
    have hd3 := hw_dig (A + C) i
    have hc1 := carry_le (B := 65536) (by omega) A C i
    have hc2 := carry_le (B := 65536) (by omega) A C (i + 1)
    obtain ⟨x, ex⟩ : ∃ x, x = dig 65536 A i := ⟨_, rfl⟩
    obtain ⟨y, ey⟩ : ∃ x, x = dig 65536 C i := ⟨_, rfl⟩
    obtain ⟨z, ez⟩ : ∃ x, x = dig 65536 (A + C) i := ⟨_, rfl⟩
    obtain ⟨c, ec⟩ : ∃ x, x = carry 65536 A C i := ⟨_, rfl⟩
    obtain ⟨d, ed⟩ : ∃ x, x = carry 65536 A C (i + 1) := ⟨_, rfl⟩
    rw [← ex, ← ey, ← ez, ← ec, ← ed] at HST
    rw [← ex] at hd1
    rw [← ey] at hd2
    rw [← ez] at hd3
    rw [← ec] at hc1 hmo ⊢
    rw [← ed] at hc2
    have EX := Lib.hid ex
    have EY := Lib.hid ey
    have EZ := Lib.hid ez
    have ED := Lib.hid ed
    clear ex ey ez ec ed
    by_cases hlt : i < L
    · have hor := hmo.1 hlt
      clear hmo
      by_cases hip : i < p
      · obtain ⟨b, off, rfl, hbl, hx0⟩ := HA.out i hip
        have hx : wr.cell? ⟨b, off + i, none⟩ = some (.int .u32 (x : Int)) := (hB.out.cell (p := ⟨b, off + i, none⟩) hbl).trans (by rw [hx0, EX.out])
        have hip' : (i : Int) < (p : Int) := by omega
        clear hx0 hor
        by_cases hiq : i < q
        · obtain ⟨b2, off2, rfl, hbl2, hy0⟩ := HC.out i hiq
          have hy : wr.cell? ⟨b2, off2 + i, none⟩ = some (.int .u32 (y : Int)) := (hB.out.cell (p := ⟨b2, off2 + i, none⟩) hbl2).trans (by rw [hy0, EY.out])
          have hiq' : (i : Int) < (q : Int) := by omega
          have t1 : ((c : Int) + (x : Int) + (y : Int)) % 65536 = (z : Int) := by have := HST.out; omega
          have t2 : ((c : Int) + (x : Int) + (y : Int)) / 65536 = (d : Int) := by have := HST.out; omega
          clear hy0
          go_wp2_with (at_builtin; refine app_u32 wr 22 Try.underlying22 rfl (.tmp 44) (.tmp 47) rfl w.heap.size (.slice xa i xc) i _ rfl hO.out (z : Int) wr.heap.size rfl rfl (by omega) hz ?_; intro v5 w5 hown5 hg5 hz5; have HO5 := Lib.hid hown5; obtain ⟨g5, q5, rfl⟩ := hown5.succ; have HB5 := Lib.hid (hB.out.trans (below_grown hO.out hg5 w.heap.size (Nat.le_refl _) hz)); clear hown5 hg5)
          go_roundw
          case rel =>
            refine ⟨i + 1, _, q5, by omega, by go_num, rfl, (by first | (rw [← ED.out, t2]; done) | rw [← ED.out]), ?_, HB5.out⟩
            show w5.owns _ _ _ _ _ _
            rw [List.range_succ, List.map_append, List.map_append]
            show w5.owns _ _ _ _ _ (_ ++ [u32V (dig 65536 (A + C) i)])
            rw [← EZ.out]
            exact HO5.out
          case measure => simp [intOf]; omega
        · have hiq' : ¬ (i : Int) < (q : Int) := by omega
          have hy0 : y = 0 := by rw [EY.out]; exact HZC.out i (by omega)
          have t1 : ((c : Int) + (x : Int)) % 65536 = (z : Int) := by have := HST.out; omega
          have t2 : ((c : Int) + (x : Int)) / 65536 = (d : Int) := by have := HST.out; omega
          clear hy0
          go_wp2_with (at_builtin; refine app_u32 wr 22 Try.underlying22 rfl (.tmp 44) (.tmp 47) rfl w.heap.size (.slice xa i xc) i _ rfl hO.out (z : Int) wr.heap.size rfl rfl (by omega) hz ?_; intro v5 w5 hown5 hg5 hz5; have HO5 := Lib.hid hown5; obtain ⟨g5, q5, rfl⟩ := hown5.succ; have HB5 := Lib.hid (hB.out.trans (below_grown hO.out hg5 w.heap.size (Nat.le_refl _) hz)); clear hown5 hg5)
          go_roundw
          case rel =>
            refine ⟨i + 1, _, q5, by omega, by go_num, rfl, (by first | (rw [← ED.out, t2]; done) | rw [← ED.out]), ?_, HB5.out⟩
            show w5.owns _ _ _ _ _ _
            rw [List.range_succ, List.map_append, List.map_append]
            show w5.owns _ _ _ _ _ (_ ++ [u32V (dig 65536 (A + C) i)])
            rw [← EZ.out]
            exact HO5.out
          case measure => simp [intOf]; omega
      · have hip' : ¬ (i : Int) < (p : Int) := by omega
        have hx0 : x = 0 := by rw [EX.out]; exact HZA.out i (by omega)
        by_cases hiq : i < q
        · obtain ⟨b2, off2, rfl, hbl2, hy0⟩ := HC.out i hiq
          have hy : wr.cell? ⟨b2, off2 + i, none⟩ = some (.int .u32 (y : Int)) := (hB.out.cell (p := ⟨b2, off2 + i, none⟩) hbl2).trans (by rw [hy0, EY.out])
          have hiq' : (i : Int) < (q : Int) := by omega
          have t1 : ((c : Int) + (y : Int)) % 65536 = (z : Int) := by have := HST.out; omega
          have t2 : ((c : Int) + (y : Int)) / 65536 = (d : Int) := by have := HST.out; omega
          clear hy0 hx0 hor
          go_wp2_with (at_builtin; refine app_u32 wr 22 Try.underlying22 rfl (.tmp 44) (.tmp 47) rfl w.heap.size (.slice xa i xc) i _ rfl hO.out (z : Int) wr.heap.size rfl rfl (by omega) hz ?_; intro v5 w5 hown5 hg5 hz5; have HO5 := Lib.hid hown5; obtain ⟨g5, q5, rfl⟩ := hown5.succ; have HB5 := Lib.hid (hB.out.trans (below_grown hO.out hg5 w.heap.size (Nat.le_refl _) hz)); clear hown5 hg5)
          go_roundw
          case rel =>
            refine ⟨i + 1, _, q5, by omega, by go_num, rfl, (by first | (rw [← ED.out, t2]; done) | rw [← ED.out]), ?_, HB5.out⟩
            show w5.owns _ _ _ _ _ _
            rw [List.range_succ, List.map_append, List.map_append]
            show w5.owns _ _ _ _ _ (_ ++ [u32V (dig 65536 (A + C) i)])
            rw [← EZ.out]
            exact HO5.out
          case measure => simp [intOf]; omega
        · have hiq' : ¬ (i : Int) < (q : Int) := by omega
          have hy0 : y = 0 := by rw [EY.out]; exact HZC.out i (by omega)
          have hc0 : 0 < c := by omega
          have t0 : (0 : Int) < (c : Int) := by omega
          have t1 : (c : Int) % 65536 = (z : Int) := by have := HST.out; omega
          have t2 : (c : Int) / 65536 = (d : Int) := by have := HST.out; omega
          clear hy0 hx0 hor
          go_wp2_with (at_builtin; refine app_u32 wr 22 Try.underlying22 rfl (.tmp 44) (.tmp 47) rfl w.heap.size (.slice xa i xc) i _ rfl hO.out (z : Int) wr.heap.size rfl rfl (by omega) hz ?_; intro v5 w5 hown5 hg5 hz5; have HO5 := Lib.hid hown5; obtain ⟨g5, q5, rfl⟩ := hown5.succ; have HB5 := Lib.hid (hB.out.trans (below_grown hO.out hg5 w.heap.size (Nat.le_refl _) hz)); clear hown5 hg5)
          go_roundw
          case rel =>
            refine ⟨i + 1, _, q5, by omega, by go_num, rfl, (by first | (rw [← ED.out, t2]; done) | rw [← ED.out]), ?_, HB5.out⟩
            show w5.owns _ _ _ _ _ _
            rw [List.range_succ, List.map_append, List.map_append]
            show w5.owns _ _ _ _ _ (_ ++ [u32V (dig 65536 (A + C) i)])
            rw [← EZ.out]
            exact HO5.out
          case measure => simp [intOf]; omega
    · obtain rfl : i = L := by omega
      have hip' : ¬ (i : Int) < (p : Int) := fun h => hlt (hmo.2 (.inl (by omega)))
      have hiq' : ¬ (i : Int) < (q : Int) := fun h => hlt (hmo.2 (.inr (.inl (by omega))))
      have hc0 : c = 0 := by
        rcases Nat.eq_zero_or_pos c with h | h
        · exact h
        · exact absurd (hmo.2 (.inr (.inr h))) hlt
      have t0 : ¬ (0 : Int) < (c : Int) := by omega
      clear hc0 hmo
      go_wp2
      rw [HP.out]
      exact ⟨_, rfl, rawH_num hO.out.reads HL.out, hB.out⟩
set_option maxRecDepth 100000 in
set_option maxHeartbeats 4000000 in
theorem hminus_any (A C : Nat) (hAC : C ≤ A) (va vb : Value) (w : World) (hA : World.numH w va A) (hC : World.numH w vb C) (hla : (hw A).length ≤ 4000) (hlc : (hw C).length ≤ 4000) :
    Calls Try.prog 86 #[va, vb] w (RawRet w (A - C) (hw A).length) := by
  obtain ⟨aa, p, ca, hp, rfl, hca, hma, hsa⟩ := numH_words hA
  obtain ⟨ab, q, cb, hq, rfl, hcb, hmb, hsb⟩ := numH_words hC
  clear hA hC
  rw [← hp] at hla ⊢
  rw [← hq] at hlc
  obtain ⟨D, rfl⟩ : ∃ D, A = C + D := ⟨A - C, by omega⟩
  rw [show C + D - C = D by omega]
  clear hAC
  have HA := Lib.hid hsa
  have HC := Lib.hid hsb
  have HZC : Hid (∀ k, q ≤ k → dig 65536 C k = 0) := fun k hk => hw_high C k (by omega)
  clear hp hq hsa hsb
  obtain ⟨HPOST, hpost⟩ : ∃ R, R = RawRet w D p := ⟨_, rfl⟩
  rw [← hpost]
  have HP := Lib.hid hpost
  clear hpost
  go_enter Try.func86, Try.ntmps86
  go_wp2_with fail
  go_loopw [5, 6, 7] (fun sv cv iv wr => ∃ (i : Nat) (xa : Option Addr) (xc : Nat), i ≤ p ∧ iv = .int .i64 (i : Int) ∧ sv = .slice xa i xc ∧ cv = .int .u32 (carry 65536 C D i : Int) ∧ Hid (wr.owns w.heap.size 23 1 (.slice xa i xc) i (((List.range i).map (dig 65536 D)).map u32V)) ∧ Hid (Below w.heap.size w wr)) (fun _ _ iv _ => p - (intOf iv).toNat)
  case atStart => exact ⟨0, none, 0, Nat.zero_le _, rfl, rfl, by rw [carry_zero]; rfl, owns_nil _ _ _, Below.refl _ w⟩
  case round =>
    obtain ⟨i, xa, xc, hi, rfl, rfl, rfl, hO, hB⟩ := hrel
    have hz := hB.out.size
    by_cases hlt : i < p
    · have HST := Lib.hid (add_step (B := 65536) (by omega) C D i)
      have hd1 := hw_dig (C + D) i
      have hd2 := hw_dig C i
      have hd3 := hw_dig D i
      have hc1 := carry_le (B := 65536) (by omega) C D i
      have hc2 := carry_le (B := 65536) (by omega) C D (i + 1)
      obtain ⟨b, off, rfl, hbl, hx0⟩ := HA.out i hlt
      obtain ⟨x, ex⟩ : ∃ x, x = dig 65536 (C + D) i := ⟨_, rfl⟩
      obtain ⟨y, ey⟩ : ∃ x, x = dig 65536 C i := ⟨_, rfl⟩
      obtain ⟨z, ez⟩ : ∃ x, x = dig 65536 D i := ⟨_, rfl⟩
      obtain ⟨c, ec⟩ : ∃ x, x = carry 65536 C D i := ⟨_, rfl⟩
      obtain ⟨d, ed⟩ : ∃ x, x = carry 65536 C D (i + 1) := ⟨_, rfl⟩
      rw [← ex, ← ey, ← ez, ← ec, ← ed] at HST
      rw [← ex] at hd1 hx0
      rw [← ey] at hd2
      rw [← ez] at hd3
      rw [← ec] at hc1 ⊢
      rw [← ed] at hc2
      have EY := Lib.hid ey
      have EZ := Lib.hid ez
      have ED := Lib.hid ed
      have hx : wr.cell? ⟨b, off + i, none⟩ = some (.int .u32 (x : Int)) := (hB.out.cell (p := ⟨b, off + i, none⟩) hbl).trans hx0
      clear ex ey ez ec ed hx0
      by_cases hiq : i < q
      · obtain ⟨b2, off2, rfl, hbl2, hy0⟩ := HC.out i hiq
        have hy : wr.cell? ⟨b2, off2 + i, none⟩ = some (.int .u32 (y : Int)) := (hB.out.cell (p := ⟨b2, off2 + i, none⟩) hbl2).trans (by rw [hy0, EY.out])
        have hiq' : (i : Int) < (q : Int) := by omega
        clear hy0
        rcases (show d = 0 ∨ d = 1 by omega) with rfl | rfl
        · have t1 : decide ((x : Int) < (c : Int) + (y : Int)) = false := decide_eq_false (by have := HST.out; omega)
          have t1' : ¬ (x : Int) < (c : Int) + (y : Int) := by have := HST.out; omega
          have t2 : (x : Int) - ((c : Int) + (y : Int)) = (z : Int) := by have := HST.out; omega
          go_wp2_with (at_builtin; refine app_u32 wr 22 Try.underlying22 rfl (.tmp 36) (.tmp 40) rfl w.heap.size (.slice xa i xc) i _ rfl hO.out (z : Int) wr.heap.size rfl rfl (by omega) hz ?_; intro v5 w5 hown5 hg5 hz5; have HO5 := Lib.hid hown5; obtain ⟨g5, q5, rfl⟩ := hown5.succ; have HB5 := Lib.hid (hB.out.trans (below_grown hO.out hg5 w.heap.size (Nat.le_refl _) hz)); clear hown5 hg5)
          go_roundw
          case rel =>
            refine ⟨i + 1, _, q5, by omega, by go_num, rfl, (by rw [← ED.out]; rfl), ?_, HB5.out⟩
            show w5.owns _ _ _ _ _ _
            rw [List.range_succ, List.map_append, List.map_append]
            show w5.owns _ _ _ _ _ (_ ++ [u32V (dig 65536 D i)])
            rw [← EZ.out]
            exact HO5.out
          case measure => simp [intOf]; omega
        · have t1 : decide ((x : Int) < (c : Int) + (y : Int)) = true := decide_eq_true (by have := HST.out; omega)
          have t1' : (x : Int) < (c : Int) + (y : Int) := by have := HST.out; omega
          have t2 : (x : Int) + 65536 - ((c : Int) + (y : Int)) = (z : Int) := by have := HST.out; omega
          go_wp2_with (at_builtin; refine app_u32 wr 22 Try.underlying22 rfl (.tmp 36) (.tmp 40) rfl w.heap.size (.slice xa i xc) i _ rfl hO.out (z : Int) wr.heap.size rfl rfl (by omega) hz ?_; intro v5 w5 hown5 hg5 hz5; have HO5 := Lib.hid hown5; obtain ⟨g5, q5, rfl⟩ := hown5.succ; have HB5 := Lib.hid (hB.out.trans (below_grown hO.out hg5 w.heap.size (Nat.le_refl _) hz)); clear hown5 hg5)
          go_roundw
          case rel =>
            refine ⟨i + 1, _, q5, by omega, by go_num, rfl, (by rw [← ED.out]; rfl), ?_, HB5.out⟩
            show w5.owns _ _ _ _ _ _
            rw [List.range_succ, List.map_append, List.map_append]
            show w5.owns _ _ _ _ _ (_ ++ [u32V (dig 65536 D i)])
            rw [← EZ.out]
            exact HO5.out
          case measure => simp [intOf]; omega
      · have hiq' : ¬ (i : Int) < (q : Int) := by omega
        have hy0 : y = 0 := by rw [EY.out]; exact HZC.out i (by omega)
        subst hy0
        rcases (show d = 0 ∨ d = 1 by omega) with rfl | rfl
        · have t1 : decide ((x : Int) < (c : Int)) = false := decide_eq_false (by have := HST.out; omega)
          have t1' : ¬ (x : Int) < (c : Int) := by have := HST.out; omega
          have t2 : (x : Int) - ((c : Int)) = (z : Int) := by have := HST.out; omega
          go_wp2_with (at_builtin; refine app_u32 wr 22 Try.underlying22 rfl (.tmp 36) (.tmp 40) rfl w.heap.size (.slice xa i xc) i _ rfl hO.out (z : Int) wr.heap.size rfl rfl (by omega) hz ?_; intro v5 w5 hown5 hg5 hz5; have HO5 := Lib.hid hown5; obtain ⟨g5, q5, rfl⟩ := hown5.succ; have HB5 := Lib.hid (hB.out.trans (below_grown hO.out hg5 w.heap.size (Nat.le_refl _) hz)); clear hown5 hg5)
          go_roundw
          case rel =>
            refine ⟨i + 1, _, q5, by omega, by go_num, rfl, (by rw [← ED.out]; rfl), ?_, HB5.out⟩
            show w5.owns _ _ _ _ _ _
            rw [List.range_succ, List.map_append, List.map_append]
            show w5.owns _ _ _ _ _ (_ ++ [u32V (dig 65536 D i)])
            rw [← EZ.out]
            exact HO5.out
          case measure => simp [intOf]; omega
        · have t1 : decide ((x : Int) < (c : Int)) = true := decide_eq_true (by have := HST.out; omega)
          have t1' : (x : Int) < (c : Int) := by have := HST.out; omega
          have t2 : (x : Int) + 65536 - ((c : Int)) = (z : Int) := by have := HST.out; omega
          go_wp2_with (at_builtin; refine app_u32 wr 22 Try.underlying22 rfl (.tmp 36) (.tmp 40) rfl w.heap.size (.slice xa i xc) i _ rfl hO.out (z : Int) wr.heap.size rfl rfl (by omega) hz ?_; intro v5 w5 hown5 hg5 hz5; have HO5 := Lib.hid hown5; obtain ⟨g5, q5, rfl⟩ := hown5.succ; have HB5 := Lib.hid (hB.out.trans (below_grown hO.out hg5 w.heap.size (Nat.le_refl _) hz)); clear hown5 hg5)
          go_roundw
          case rel =>
            refine ⟨i + 1, _, q5, by omega, by go_num, rfl, (by rw [← ED.out]; rfl), ?_, HB5.out⟩
            show w5.owns _ _ _ _ _ _
            rw [List.range_succ, List.map_append, List.map_append]
            show w5.owns _ _ _ _ _ (_ ++ [u32V (dig 65536 D i)])
            rw [← EZ.out]
            exact HO5.out
          case measure => simp [intOf]; omega
    · obtain rfl : i = p := by omega
      go_wp2
      rw [HP.out]
      exact ⟨_, rfl, hO.out.reads, hB.out⟩
end Go.Proofs.Ytnjblppapmflhaa

/- The reference's numbers with signs: without zeros at the end. -/
namespace Go.Proofs.Ytnjblppapmflhaa
set_option linter.all false
open Go.RowKit Go.Shelf Go.WideNum
/-- A number with its sign is returned. -/
def SRet (w : World) (s : Bool) (n : Nat) (e : Ending) (w' : World) : Prop := ∃ v, e = .returned (.agg #[.bool s, v]) ∧ World.numH w' v n ∧ Below w.heap.size w w'
/-- The same, the words being new. -/
def SRetO (w : World) (s : Bool) (n : Nat) (e : Ending) (w' : World) : Prop := ∃ v, e = .returned (.agg #[.bool s, v]) ∧ w'.owns w.heap.size 23 1 v (hw n).length ((hw n).map u32V) ∧ Below w.heap.size w w'
theorem SRetO.ret {w w' : World} {s : Bool} {n : Nat} {e : Ending} (h : SRetO w s n e w') : SRet w s n e w' := by
  obtain ⟨v, h1, h2, h3⟩ := h
  exact ⟨v, h1, h2.reads, h3⟩
theorem num_cells {W : World} {g : Nat} {s : Bool} {v : Value} {T : TypeId} (h : W.heap[g]? = some (.cells #[.bool s, v] T)) :
    W.cell? ⟨g, 0, none⟩ = some (.bool s) ∧ W.cell? ⟨g, 1, none⟩ = some v ∧ W.frozen? ⟨g, 0, none⟩ = false ∧ W.frozen? ⟨g, 1, none⟩ = false := by
  refine ⟨by rw [cell_of_row W g 0 _ T (0, 0) h]; rfl, by rw [cell_of_row W g 1 _ T (0, 0) h]; rfl, by simp [World.frozen?, h], by simp [World.frozen?, h]⟩
theorem num_set {W : World} {g : Nat} {u0 u1 : Value} {T : TypeId} (h : W.heap[g]? = some (.cells #[u0, u1] T)) (x y : Value) :
    ((W.setCell ⟨g, 0, none⟩ x).setCell ⟨g, 1, none⟩ y).heap[g]? = some (.cells #[x, y] T) := by
  simp [World.setCell, Array.getElem?_modify, h]
/-- No cell of these is a number. -/
def noInt (cs : Array Value) : Prop := ∀ u ∈ cs, ∀ z, u ≠ .int .u32 z
theorem reads_other {W W' : World} {B p : Nat} {v : Value} {l : List Nat} {cs : Array Value} {T : TypeId} (h : W.reads B v (l.map u32V)) (hp : W.heap[p]? = some (.cells cs T)) (hcs : noInt cs) (hW : ∀ b, b ≠ p → W'.heap[b]? = W.heap[b]?) : W'.reads B v (l.map u32V) := by
  obtain ⟨a, cap, hv, hn, hz, hmx, hc⟩ := h
  refine ⟨a, cap, hv, hn, hz, hmx, fun j u hj => ?_⟩
  obtain ⟨b, off, ha, hB, hcell⟩ := hc j u hj
  refine ⟨b, off, ha, hB, ?_⟩
  have hne : b ≠ p := by
    rintro rfl
    rw [cell_of_row W _ _ _ _ (0, 0) hp] at hcell
    obtain ⟨z, _, rfl⟩ := List.mem_map.1 (List.mem_of_getElem? hj)
    exact hcs _ (Array.mem_of_getElem? hcell) _ rfl
  exact (World.cell?_of_block (a := ⟨b, off + j, none⟩) (hW b hne)).trans hcell
theorem noInt_num (s : Bool) (a : Option Addr) (n c : Nat) : noInt #[.bool s, .slice a n c] := by
  intro u hu z e
  subst e
  simp at hu
theorem two_other {W : World} {p : Nat} (x y : Value) : ∀ b, b ≠ p → ((W.setCell ⟨p, 0, none⟩ x).setCell ⟨p, 1, none⟩ y).heap[b]? = W.heap[b]? := by
  intro b h
  simp [World.setCell, Array.getElem?_modify, h, h.symm, Ne.symm h]
theorem numH_set {W : World} {p n : Nat} {v : Value} {s : Bool} {a : Option Addr} {k c : Nat} {T : TypeId} (h : World.numH W v n) (hp : W.heap[p]? = some (.cells #[.bool s, .slice a k c] T)) (x y : Value) :
    World.numH ((W.setCell ⟨p, 0, none⟩ x).setCell ⟨p, 1, none⟩ y) v n := by
  have h1 := reads_other h hp (noInt_num s a k c) (two_other x y)
  have e : ((W.setCell ⟨p, 0, none⟩ x).setCell ⟨p, 1, none⟩ y).heap.size = W.heap.size := by simp
  show World.reads _ _ _ _
  rw [e]; exact h1
theorem rawH_words {w : World} {v : Value} {n L : Nat} (h : World.rawH w v n L) : ∃ (a : Option Addr) (c : Nat), v = .slice a L c ∧ L ≤ c ∧ c ≤ maxLen ∧
    ∀ k, k < L → ∃ b off, a = some ⟨b, off, none⟩ ∧ b < w.heap.size ∧ w.cell? ⟨b, off + k, none⟩ = some (.int .u32 (dig 65536 n k : Int)) := by
  have h : w.reads _ _ _ := h
  obtain ⟨a, c, rfl, hc, hm, hs⟩ := reads_u32 h
  simp only [List.length_map, List.length_range] at hc ⊢
  exact ⟨a, c, rfl, hc, hm, fun k hk => hs k _ (by simp [hk])⟩
theorem hw_top {n k : Nat} (h : (hw n).length = k + 1) : dig 65536 n k ≠ 0 := by
  have h1 := words_trimmed (B := 65536) (by omega) n n (Nat.le_refl _)
  have h2 : (hw n).getLast? = some (dig 65536 n k) := by
    rw [List.getLast?_eq_getElem?, h, Nat.add_sub_cancel]
    exact hw_get n k (by omega)
  exact h1 _ h2
theorem rawH_take {w : World} {a : Option Addr} {n L c M : Nat} (h : World.rawH w (.slice a L c) n L) (hM : M = (hw n).length) (hML : M ≤ L) : World.numH w (.slice a M c) n := by
  subst hM
  obtain ⟨a', c', e, hn, hc, hm, hs⟩ := h
  injection e with e1 _ e3
  subst e1 e3
  simp only [List.length_map, List.length_range] at hc
  refine ⟨a, c, by simp, hn, by simp; omega, hm, fun j u hj => ?_⟩
  rw [List.getElem?_map] at hj
  rcases Nat.lt_or_ge j (hw n).length with h1 | h1
  · rw [hw_get n j h1] at hj
    refine hs j u ?_
    rw [List.getElem?_map, List.getElem?_map, List.getElem?_range (by omega)]
    exact hj
  · rw [List.getElem?_eq_none h1] at hj; cases hj
set_option maxRecDepth 100000 in
set_option maxHeartbeats 8000000 in
theorem htrim_own (s : Bool) (n L : Nat) (hn : n < 65536 ^ L) (hL : L ≤ 10000) (v : Value) (w : World) (hv : World.rawH w v n L) :
    Calls Try.prog 83 #[.agg #[.bool s, v]] w (SRetO w (s && decide (n ≠ 0)) n) := by
  obtain ⟨i0, hi0, hiz, hiz1, hizb⟩ := info_parts infoU32
  have HV : Hid (World.rawH w v n L) := hv
  obtain ⟨a, c, rfl, hc, hm, hs⟩ := rawH_words hv
  clear hv
  have hM := hw_len_le hn
  have hZ : decide (n ≠ 0) = decide (0 < (hw n).length) := by
    have := words_len0 (B := 65536) (by omega) n
    unfold hw
    congr 1
    apply propext
    omega
  rw [hZ]
  obtain ⟨M, eM⟩ : ∃ M, M = (hw n).length := ⟨_, rfl⟩
  rw [← eM] at hM ⊢
  have HE := Lib.hid eM
  have HS := Lib.hid hs
  obtain ⟨S, hS⟩ : ∃ S, S = (s && decide (0 < M)) := ⟨_, rfl⟩
  rw [← hS]
  have HSS := Lib.hid hS
  have hc' : (L : Int) ≤ (c : Int) := by omega
  have HMX := Lib.hid hm
  clear hS hs hZ eM hn hc hm
  obtain ⟨HPOST, hpost⟩ : ∃ R, R = SRetO w S n := ⟨_, rfl⟩
  rw [← hpost]
  have HP := Lib.hid hpost
  clear hpost
  obtain ⟨W0, hW0⟩ : ∃ W0, W0 = (w.alloc (.cells #[.bool s, .slice a L c] 86)).alloc (.cells #[.bool false, .slice none 0 0] 86) := ⟨_, rfl⟩
  have g0 : W0.heap[w.heap.size]? = some (.cells #[.bool s, .slice a L c] 86) := by rw [hW0, Below.heap_alloc _ _ _ (by simp)]; exact heap_alloc_new w _
  have g1 : W0.heap[w.heap.size + 1]? = some (.cells #[.bool false, .slice none 0 0] 86) := by rw [hW0]; exact alloc_last _ _ (by simp)
  have hb0 : Below w.heap.size w W0 := by rw [hW0]; exact (((Below.refl _ w).alloc (Nat.le_refl _) _).alloc (by simp) _)
  have hz0 : W0.heap.size = w.heap.size + 1 + 1 := by rw [hW0]; simp
  have HB0 := Lib.hid hb0
  have HG1 := Lib.hid g1
  obtain ⟨c00, c01, f00, f01⟩ := num_cells g0
  have HZ0 := Lib.hid hz0
  have HW0 := Lib.hid hW0
  clear hb0 g0 g1 hz0 hW0
  go_enter Try.func83, Try.ntmps83
  go_upto_region 1 with (fail)
  rw [← HW0.out]
  go_wp2_with fail
  go_loop [3] (fun kv => ∃ k : Nat, M ≤ k ∧ k ≤ L ∧ kv = .int .i64 (k : Int)) (fun kv => (intOf kv).toNat)
  case atStart => exact ⟨L, hM, Nat.le_refl _, rfl⟩
  case round =>
    obtain ⟨k, hk1, hk2, rfl⟩ := hrel
    by_cases hlt : M < k
    · obtain ⟨j, rfl⟩ : ∃ j, k = j + 1 := ⟨k - 1, by omega⟩
      have hz : dig 65536 n j = 0 := hw_high n j (by rw [← HE.out]; omega)
      obtain ⟨b, off, rfl, hbl, hx0⟩ := HS.out j (by omega)
      rw [hz] at hx0
      have hx : W0.cell? ⟨b, off + j, none⟩ = some (.int .u32 0) := (HB0.out.cell (p := ⟨b, off + j, none⟩) hbl).trans hx0
      clear hx0 hz
      go_wp2_with fail
      go_round
      case rel => exact ⟨j, by omega, by omega, by go_num⟩
      case measure => simp [intOf]
    · obtain rfl : k = M := by omega
      have hpost2 : Hid (∀ (v' : Value) (w5 : World), w5.owns w.heap.size 23 1 v' (0 + ((hw n).map u32V).length) ([] ++ (hw n).map u32V) → World.numH w5 v' n) := fun v' w5 h => by
        have := h.reads
        rwa [List.nil_append] at this
      have hread : Hid (∀ W : World, Below w.heap.size w W → World.numH W (.slice a k c) n) := fun W hb => numH_below (rawH_take HV.out HE.out hk2) hb
      have hstop : k = 0 ∨ ∃ (j x b off : Nat), k = j + 1 ∧ x ≠ 0 ∧ a = some ⟨b, off, none⟩ ∧ W0.cell? ⟨b, off + j, none⟩ = some (.int .u32 (x : Int)) := by
        rcases Nat.eq_zero_or_pos k with h0 | h0
        · exact .inl h0
        · obtain ⟨j, rfl⟩ : ∃ j, k = j + 1 := ⟨k - 1, by omega⟩
          obtain ⟨b, off, e1, hbl, hx0⟩ := HS.out j (by omega)
          exact .inr ⟨j, _, b, off, rfl, hw_top HE.out.symm, e1, (HB0.out.cell (p := ⟨b, off + j, none⟩) hbl).trans hx0⟩
      have hz2 := HZ0.out
      have hk0 : (0 : Int) ≤ (k : Int) := by omega
      have hkc : (k : Int) ≤ (c : Int) := by omega
      have hwz : w.heap.size < W0.heap.size := by omega
      have HO : Hid ((W0.alloc (.cells #[] 23)).drew.owns W0.heap.size 23 1 (.slice (some ⟨W0.heap.size, 0, none⟩) 0 0) 0 []) := ⟨rfl, .inr ⟨W0.heap.size, 0, #[], (0, 0), rfl, Nat.le_refl _, heap_alloc_new W0 _, okFz_zero _, Nat.le_refl _, Nat.zero_le _, rfl, rfl⟩⟩
      have HBD : Hid (Below W0.heap.size W0 (W0.alloc (.cells #[] 23)).drew) := ((Below.refl W0.heap.size W0).alloc (Nat.le_refl _) _).drew
      have HBA : Hid (Below w.heap.size w (W0.alloc (.cells #[] 23)).drew) := (HB0.out.alloc (by omega) _).drew
      have HBS : Hid (W0.heap.size ≤ (W0.alloc (.cells #[] 23)).drew.heap.size) := HBD.out.size
      have HK0 := Lib.hid (HBD.out.cell (p := ⟨w.heap.size, 0, none⟩) hwz)
      have HK1 := Lib.hid (HBD.out.cell (p := ⟨w.heap.size, 1, none⟩) hwz)
      have HL1 : Hid (0 + ((hw n).map u32V).length ≤ maxLen) := by show _ ≤ _; rw [List.length_map, ← HE.out]; unfold maxLen; omega
      have HL2 : Hid ((0 + ((hw n).map u32V).length) * 4 ≤ 140737488355328) := by show _ ≤ _; rw [List.length_map, ← HE.out]; omega
      have HR := hread
      have HF : Hid (∀ (v' : Value) (w6 : World), w6.owns W0.heap.size 23 1 v' (0 + ((hw n).map u32V).length) ([] ++ (hw n).map u32V) → World.grownBy (W0.alloc (.cells #[] 23)).drew w6 (Value.slice (some ⟨W0.heap.size, 0, none⟩) 0 0).ownBlock →
          ∃ a6 n6 c6, v' = .slice a6 n6 c6 ∧ Below w.heap.size w w6 ∧ w6.owns W0.heap.size 23 1 v' (hw n).length ((hw n).map u32V) ∧ w6.cell? ⟨w.heap.size, 0, none⟩ = W0.cell? ⟨w.heap.size, 0, none⟩ ∧ w6.cell? ⟨w.heap.size, 1, none⟩ = W0.cell? ⟨w.heap.size, 1, none⟩ ∧ w6.heap[w.heap.size + 1]? = some (.cells #[.bool false, .slice none 0 0] 86)) := by
        intro v' w6 ho hg
        have hb := HBD.out.trans (below_grown HO.out hg W0.heap.size (Nat.le_refl _) HBS.out)
        have hr : w6.owns W0.heap.size 23 1 v' (hw n).length ((hw n).map u32V) := by
          rw [List.nil_append, List.length_map, Nat.zero_add] at ho
          exact ho
        obtain ⟨a6, c6, e6⟩ := reads_len hr.reads
        exact ⟨a6, _, c6, e6, HB0.out.trans (hb.mono (by omega)), hr, hb.cell (p := ⟨w.heap.size, 0, none⟩) hwz, hb.cell (p := ⟨w.heap.size, 1, none⟩) hwz, (hb.block _ (by omega)).trans HG1.out⟩
      have HZ1 : Hid (w.heap.size + 1 < W0.heap.size) := by show _ < _; omega
      have HZ2 : Hid (w.heap.size ≤ W0.heap.size) := by show _ ≤ _; omega
      clear hread hz2 hwz
      rcases hstop with h0 | ⟨j, x, b, off, hj, hx, rfl, hcell⟩
      · subst h0
        have hSt : Hid (S = false) := by show _ = _; rw [HSS.out]; simp
        have t0 : ¬ (0 : Int) < ((0 : Nat) : Int) := by omega
        clear hk1
        go_wp2_with fail
        cases s with
        | true =>
          refine wp_region_line (fun w' => w'.cell? ⟨w.heap.size, 0, none⟩ = some (.bool true) ∧ w'.cell? ⟨w.heap.size, 1, none⟩ = some (.slice a L c)) 13 (by kernel_rfl) ⟨c00, c01⟩ (fun hHeld => ?_)
          refine wpAnyT_take 0 (v := ?_) (by kernel_rfl) rfl (by kernel_rfl) (by decide) rfl (by kernel_rfl) (by kernel_rfl) (fun _ _ _ h => h) (Or.inl ⟨by rfl, ?_⟩) (by assumption) ?_
          rotate_left
          · (intro wq hSq; (try dsimp only at hSq); go_simp; try with_reducible rfl)
          try simp only [Act.put, List.setIfInBounds_toArray, List.set_cons_zero, List.set_cons_succ]
          refine wpAnyT_take 1 (v := ?_) (by kernel_rfl) rfl (by kernel_rfl) (by decide) rfl (by kernel_rfl) (by kernel_rfl) (fun _ _ _ h => h) (Or.inl ⟨by rfl, ?_⟩) (by assumption) ?_
          rotate_left
          · (intro wq hSq; (try dsimp only at hSq); go_simp; try with_reducible rfl)
          try simp only [Act.put, List.setIfInBounds_toArray, List.set_cons_zero, List.set_cons_succ]
          refine wpAnyT_take 2 (v := ?_) (by kernel_rfl) rfl (by kernel_rfl) (by decide) rfl (by kernel_rfl) (by kernel_rfl) (fun _ _ _ h => h) (Or.inl ⟨by rfl, ?_⟩) (by assumption) ?_
          rotate_left
          · (intro wq hSq; (try dsimp only at hSq); go_simp; try with_reducible rfl)
          try simp only [Act.put, List.setIfInBounds_toArray, List.set_cons_zero, List.set_cons_succ]
          refine wpAnyT_take 3 (v := ?_) (by kernel_rfl) rfl (by kernel_rfl) (by decide) rfl (by kernel_rfl) (by kernel_rfl) (fun _ _ _ h => h) (Or.inl ⟨by rfl, ?_⟩) (by assumption) ?_
          rotate_left
          · (intro wq hSq; (try dsimp only at hSq); go_simp; try with_reducible rfl)
          try simp only [Act.put, List.setIfInBounds_toArray, List.set_cons_zero, List.set_cons_succ]
          refine wpAnyT_take 4 (v := ?_) (by kernel_rfl) rfl (by kernel_rfl) (by decide) rfl (by kernel_rfl) (by kernel_rfl) (fun _ _ _ h => h) (Or.inl ⟨by rfl, ?_⟩) (by assumption) ?_
          rotate_left
          · (intro wq hSq; (try dsimp only at hSq); go_simp; try with_reducible rfl)
          try simp only [Act.put, List.setIfInBounds_toArray, List.set_cons_zero, List.set_cons_succ]
          refine wpAnyT_take 5 (v := ?_) (by kernel_rfl) rfl (by kernel_rfl) (by decide) rfl (by kernel_rfl) (by kernel_rfl) (fun _ _ _ h => h) (Or.inl ⟨by rfl, ?_⟩) (by assumption) ?_
          rotate_left
          · (intro wq hSq; (try dsimp only at hSq); go_simp; try with_reducible rfl)
          try simp only [Act.put, List.setIfInBounds_toArray, List.set_cons_zero, List.set_cons_succ]
          refine wpAnyT_take 7 (v := ?_) (by kernel_rfl) rfl (by kernel_rfl) (by decide) rfl (by kernel_rfl) (by kernel_rfl) (fun _ _ _ h => h) (Or.inl ⟨by rfl, ?_⟩) (by assumption) ?_
          rotate_left
          · (intro wq hSq; (try dsimp only at hSq); go_simp; try with_reducible rfl)
          try simp only [Act.put, List.setIfInBounds_toArray, List.set_cons_zero, List.set_cons_succ]
          refine wpAnyT_take 8 (v := ?_) (by kernel_rfl) rfl (by kernel_rfl) (by decide) rfl (by kernel_rfl) (by kernel_rfl) (fun _ _ _ h => h) (Or.inl ⟨by rfl, ?_⟩) (by assumption) ?_
          rotate_left
          · (intro wq hSq; (try dsimp only at hSq); go_simp; try with_reducible rfl)
          try simp only [Act.put, List.setIfInBounds_toArray, List.set_cons_zero, List.set_cons_succ]
          refine wpAnyT_take 9 (v := ?_) (by kernel_rfl) rfl (by kernel_rfl) (by decide) rfl (by kernel_rfl) (by kernel_rfl) (fun _ _ _ h => h) (Or.inl ⟨by rfl, ?_⟩) (by assumption) ?_
          rotate_left
          · (intro wq hSq; (try dsimp only at hSq); go_simp; try with_reducible rfl)
          try simp only [Act.put, List.setIfInBounds_toArray, List.set_cons_zero, List.set_cons_succ]
          refine wpAnyT_take 10 (v := ?_) (by kernel_rfl) rfl (by kernel_rfl) (by decide) rfl (by kernel_rfl) (by kernel_rfl) (fun _ _ _ h => h) (Or.inl ⟨by rfl, ?_⟩) (by assumption) ?_
          rotate_left
          · (intro wq hSq; (try dsimp only at hSq); go_simp; try with_reducible rfl)
          try simp only [Act.put, List.setIfInBounds_toArray, List.set_cons_zero, List.set_cons_succ]
          refine wpAnyT_step 6 (by kernel_rfl) rfl (fun K hK => ?_)
          go_simp
          refine hK.out _ _ ⟨HK0.out.trans c00, HK1.out.trans c01⟩ (fun hHeld2 => ?_)
          clear hK K hHeld
          try simp only [Act.put, List.setIfInBounds_toArray, List.set_cons_zero, List.set_cons_succ]
          refine wpAnyT_step 11 (by kernel_rfl) rfl (fun K hK => ?_)
          refine step_append_reads (by rfl) (.tmp 26) (.tmp 30) 22 (by rfl) W0.heap.size 23 i0 (.int .u32 0) 4 Try.underlying22 hi0 hiz hiz1 hizb rfl (.slice (some ⟨W0.heap.size, 0, none⟩) 0 0) 0 [] (by rfl) HO.out _ (.slice a 0 c) ((hw n).map u32V) (by rfl) (HR.out _ HBA.out) (one_u32 _) HL1.out HL2.out HBS.out ?_
          intro v6 w6 hown6 hg6
          obtain ⟨a6, n6, c6, rfl, hb6, hn6, hk0, hk1, hg16⟩ := HF.out v6 w6 hown6 hg6
          clear hown6 hg6
          refine hK.out _ _ ⟨hk0.trans c00, hk1.trans c01⟩ (fun hHeld3 => ?_)
          have HB6 := Lib.hid hb6
          have HN6 := Lib.hid hn6
          have HG6 := Lib.hid hg16
          clear hb6 hn6 hg16 hk0 hk1
          clear hK K hHeld2
          try simp only [Act.put, List.setIfInBounds_toArray, List.set_cons_zero, List.set_cons_succ]
          refine wpAnyT_take 12 (v := ?_) (by kernel_rfl) rfl (by kernel_rfl) (by decide) rfl (by kernel_rfl) (by kernel_rfl) (fun _ _ _ h => h) (Or.inl ⟨by rfl, ?_⟩) (by assumption) ?_
          rotate_left
          · (intro wq hSq; (try dsimp only at hSq); go_simp; try with_reducible rfl)
          try simp only [Act.put, List.setIfInBounds_toArray, List.set_cons_zero, List.set_cons_succ]
          refine wpAnyT_last (by kernel_rfl) (by kernel_rfl) rfl (fun K hK => ?_)
          obtain ⟨d0, d1, fz0, fz1⟩ := num_cells HG6.out
          go_simp
          refine hK.out _ _ ?_
          clear hK K hHeld3 d0 d1 fz0 fz1
          have m2 := num_set HG6.out (.bool false) (.slice a6 n6 c6)
          have hb9 : Below w.heap.size w ((w6.setCell ⟨w.heap.size + 1, 0, none⟩ (.bool false)).setCell ⟨w.heap.size + 1, 1, none⟩ (.slice a6 n6 c6)) := (HB6.out.setCell (by simp) _).setCell (by simp) _
          have hn9 : World.owns ((w6.setCell ⟨w.heap.size + 1, 0, none⟩ (.bool false)).setCell ⟨w.heap.size + 1, 1, none⟩ (.slice a6 n6 c6)) w.heap.size 23 1 (.slice a6 n6 c6) (hw n).length ((hw n).map u32V) := ((World.owns.setCell HN6.out HZ1.out _).setCell HZ1.out _).mono HZ2.out
          obtain ⟨d20, d21, -, -⟩ := num_cells m2
          clear m2
          generalize (w6.setCell ⟨w.heap.size + 1, 0, none⟩ (.bool false)).setCell ⟨w.heap.size + 1, 1, none⟩ (.slice a6 n6 c6) = W9 at d20 d21 hb9 hn9 ⊢
          have HB9 := Lib.hid hb9
          have HN9 := Lib.hid hn9
          clear hb9 hn9
          go_wp2
          rw [HP.out]
          exact bodyPost_ret (v := .agg #[.bool false, .slice a6 n6 c6]) (by simp [results, Try.results83, go_sem, d20, d21]) rfl ⟨.slice a6 n6 c6, by rw [hSt.out], HN9.out, HB9.out⟩
        | false =>
          refine wp_region_line (fun w' => w'.cell? ⟨w.heap.size, 0, none⟩ = some (.bool false) ∧ w'.cell? ⟨w.heap.size, 1, none⟩ = some (.slice a L c)) 13 (by kernel_rfl) ⟨c00, c01⟩ (fun hHeld => ?_)
          refine wpAnyT_take 0 (v := ?_) (by kernel_rfl) rfl (by kernel_rfl) (by decide) rfl (by kernel_rfl) (by kernel_rfl) (fun _ _ _ h => h) (Or.inl ⟨by rfl, ?_⟩) (by assumption) ?_
          rotate_left
          · (intro wq hSq; (try dsimp only at hSq); go_simp; try with_reducible rfl)
          try simp only [Act.put, List.setIfInBounds_toArray, List.set_cons_zero, List.set_cons_succ]
          refine wpAnyT_take 1 (v := ?_) (by kernel_rfl) rfl (by kernel_rfl) (by decide) rfl (by kernel_rfl) (by kernel_rfl) (fun _ _ _ h => h) (Or.inl ⟨by rfl, ?_⟩) (by assumption) ?_
          rotate_left
          · (intro wq hSq; (try dsimp only at hSq); go_simp; try with_reducible rfl)
          try simp only [Act.put, List.setIfInBounds_toArray, List.set_cons_zero, List.set_cons_succ]
          refine wpAnyT_take 2 (v := ?_) (by kernel_rfl) rfl (by kernel_rfl) (by decide) rfl (by kernel_rfl) (by kernel_rfl) (fun _ _ _ h => h) (Or.inl ⟨by rfl, ?_⟩) (by assumption) ?_
          rotate_left
          · (intro wq hSq; (try dsimp only at hSq); go_simp; try with_reducible rfl)
          try simp only [Act.put, List.setIfInBounds_toArray, List.set_cons_zero, List.set_cons_succ]
          refine wpAnyT_take 3 (v := undef) (by kernel_rfl) rfl (by kernel_rfl) (by decide) rfl (by kernel_rfl) (by kernel_rfl) (fun _ _ _ h => h) (Or.inr ⟨by rfl, rfl⟩) (by assumption) ?_
          try simp only [Act.put, List.setIfInBounds_toArray, List.set_cons_zero, List.set_cons_succ]
          refine wpAnyT_take 4 (v := undef) (by kernel_rfl) rfl (by kernel_rfl) (by decide) rfl (by kernel_rfl) (by kernel_rfl) (fun _ _ _ h => h) (Or.inr ⟨by rfl, rfl⟩) (by assumption) ?_
          try simp only [Act.put, List.setIfInBounds_toArray, List.set_cons_zero, List.set_cons_succ]
          refine wpAnyT_take 5 (v := ?_) (by kernel_rfl) rfl (by kernel_rfl) (by decide) rfl (by kernel_rfl) (by kernel_rfl) (fun _ _ _ h => h) (Or.inl ⟨by rfl, ?_⟩) (by assumption) ?_
          rotate_left
          · (intro wq hSq; (try dsimp only at hSq); go_simp; try with_reducible rfl)
          try simp only [Act.put, List.setIfInBounds_toArray, List.set_cons_zero, List.set_cons_succ]
          refine wpAnyT_take 7 (v := ?_) (by kernel_rfl) rfl (by kernel_rfl) (by decide) rfl (by kernel_rfl) (by kernel_rfl) (fun _ _ _ h => h) (Or.inl ⟨by rfl, ?_⟩) (by assumption) ?_
          rotate_left
          · (intro wq hSq; (try dsimp only at hSq); go_simp; try with_reducible rfl)
          try simp only [Act.put, List.setIfInBounds_toArray, List.set_cons_zero, List.set_cons_succ]
          refine wpAnyT_take 8 (v := ?_) (by kernel_rfl) rfl (by kernel_rfl) (by decide) rfl (by kernel_rfl) (by kernel_rfl) (fun _ _ _ h => h) (Or.inl ⟨by rfl, ?_⟩) (by assumption) ?_
          rotate_left
          · (intro wq hSq; (try dsimp only at hSq); go_simp; try with_reducible rfl)
          try simp only [Act.put, List.setIfInBounds_toArray, List.set_cons_zero, List.set_cons_succ]
          refine wpAnyT_take 9 (v := ?_) (by kernel_rfl) rfl (by kernel_rfl) (by decide) rfl (by kernel_rfl) (by kernel_rfl) (fun _ _ _ h => h) (Or.inl ⟨by rfl, ?_⟩) (by assumption) ?_
          rotate_left
          · (intro wq hSq; (try dsimp only at hSq); go_simp; try with_reducible rfl)
          try simp only [Act.put, List.setIfInBounds_toArray, List.set_cons_zero, List.set_cons_succ]
          refine wpAnyT_take 10 (v := ?_) (by kernel_rfl) rfl (by kernel_rfl) (by decide) rfl (by kernel_rfl) (by kernel_rfl) (fun _ _ _ h => h) (Or.inl ⟨by rfl, ?_⟩) (by assumption) ?_
          rotate_left
          · (intro wq hSq; (try dsimp only at hSq); go_simp; try with_reducible rfl)
          try simp only [Act.put, List.setIfInBounds_toArray, List.set_cons_zero, List.set_cons_succ]
          refine wpAnyT_step 6 (by kernel_rfl) rfl (fun K hK => ?_)
          go_simp
          refine hK.out _ _ ⟨HK0.out.trans c00, HK1.out.trans c01⟩ (fun hHeld2 => ?_)
          clear hK K hHeld
          try simp only [Act.put, List.setIfInBounds_toArray, List.set_cons_zero, List.set_cons_succ]
          refine wpAnyT_step 11 (by kernel_rfl) rfl (fun K hK => ?_)
          refine step_append_reads (by rfl) (.tmp 26) (.tmp 30) 22 (by rfl) W0.heap.size 23 i0 (.int .u32 0) 4 Try.underlying22 hi0 hiz hiz1 hizb rfl (.slice (some ⟨W0.heap.size, 0, none⟩) 0 0) 0 [] (by rfl) HO.out _ (.slice a 0 c) ((hw n).map u32V) (by rfl) (HR.out _ HBA.out) (one_u32 _) HL1.out HL2.out HBS.out ?_
          intro v6 w6 hown6 hg6
          obtain ⟨a6, n6, c6, rfl, hb6, hn6, hk0, hk1, hg16⟩ := HF.out v6 w6 hown6 hg6
          clear hown6 hg6
          refine hK.out _ _ ⟨hk0.trans c00, hk1.trans c01⟩ (fun hHeld3 => ?_)
          have HB6 := Lib.hid hb6
          have HN6 := Lib.hid hn6
          have HG6 := Lib.hid hg16
          clear hb6 hn6 hg16 hk0 hk1
          clear hK K hHeld2
          try simp only [Act.put, List.setIfInBounds_toArray, List.set_cons_zero, List.set_cons_succ]
          refine wpAnyT_take 12 (v := ?_) (by kernel_rfl) rfl (by kernel_rfl) (by decide) rfl (by kernel_rfl) (by kernel_rfl) (fun _ _ _ h => h) (Or.inl ⟨by rfl, ?_⟩) (by assumption) ?_
          rotate_left
          · (intro wq hSq; (try dsimp only at hSq); go_simp; try with_reducible rfl)
          try simp only [Act.put, List.setIfInBounds_toArray, List.set_cons_zero, List.set_cons_succ]
          refine wpAnyT_last (by kernel_rfl) (by kernel_rfl) rfl (fun K hK => ?_)
          obtain ⟨d0, d1, fz0, fz1⟩ := num_cells HG6.out
          go_simp
          refine hK.out _ _ ?_
          clear hK K hHeld3 d0 d1 fz0 fz1
          have m2 := num_set HG6.out (.bool false) (.slice a6 n6 c6)
          have hb9 : Below w.heap.size w ((w6.setCell ⟨w.heap.size + 1, 0, none⟩ (.bool false)).setCell ⟨w.heap.size + 1, 1, none⟩ (.slice a6 n6 c6)) := (HB6.out.setCell (by simp) _).setCell (by simp) _
          have hn9 : World.owns ((w6.setCell ⟨w.heap.size + 1, 0, none⟩ (.bool false)).setCell ⟨w.heap.size + 1, 1, none⟩ (.slice a6 n6 c6)) w.heap.size 23 1 (.slice a6 n6 c6) (hw n).length ((hw n).map u32V) := ((World.owns.setCell HN6.out HZ1.out _).setCell HZ1.out _).mono HZ2.out
          obtain ⟨d20, d21, -, -⟩ := num_cells m2
          clear m2
          generalize (w6.setCell ⟨w.heap.size + 1, 0, none⟩ (.bool false)).setCell ⟨w.heap.size + 1, 1, none⟩ (.slice a6 n6 c6) = W9 at d20 d21 hb9 hn9 ⊢
          have HB9 := Lib.hid hb9
          have HN9 := Lib.hid hn9
          clear hb9 hn9
          go_wp2
          rw [HP.out]
          exact bodyPost_ret (v := .agg #[.bool false, .slice a6 n6 c6]) (by simp [results, Try.results83, go_sem, d20, d21]) rfl ⟨.slice a6 n6 c6, by rw [hSt.out], HN9.out, HB9.out⟩
      · have t0 : (0 : Int) < (k : Int) := by omega
        have t1 : ((x : Int) == 0) = false := by rw [beq_eq_false_iff_ne]; omega
        have hj2 : (k : Int) - 1 = (j : Int) := by omega
        have hjL : j < L := by omega
        have hSt : Hid (S = s) := by show _ = _; rw [HSS.out, decide_eq_true (by omega), Bool.and_true]
        clear hx hj hk1
        go_wp2_with fail
        cases s with
        | true =>
          refine wp_region_line (fun w' => w'.cell? ⟨w.heap.size, 0, none⟩ = some (.bool true) ∧ w'.cell? ⟨w.heap.size, 1, none⟩ = some (.slice (some ⟨b, off, none⟩) L c)) 13 (by kernel_rfl) ⟨c00, c01⟩ (fun hHeld => ?_)
          refine wpAnyT_take 0 (v := ?_) (by kernel_rfl) rfl (by kernel_rfl) (by decide) rfl (by kernel_rfl) (by kernel_rfl) (fun _ _ _ h => h) (Or.inl ⟨by rfl, ?_⟩) (by assumption) ?_
          rotate_left
          · (intro wq hSq; (try dsimp only at hSq); go_simp; try with_reducible rfl)
          try simp only [Act.put, List.setIfInBounds_toArray, List.set_cons_zero, List.set_cons_succ]
          refine wpAnyT_take 1 (v := ?_) (by kernel_rfl) rfl (by kernel_rfl) (by decide) rfl (by kernel_rfl) (by kernel_rfl) (fun _ _ _ h => h) (Or.inl ⟨by rfl, ?_⟩) (by assumption) ?_
          rotate_left
          · (intro wq hSq; (try dsimp only at hSq); go_simp; try with_reducible rfl)
          try simp only [Act.put, List.setIfInBounds_toArray, List.set_cons_zero, List.set_cons_succ]
          refine wpAnyT_take 2 (v := ?_) (by kernel_rfl) rfl (by kernel_rfl) (by decide) rfl (by kernel_rfl) (by kernel_rfl) (fun _ _ _ h => h) (Or.inl ⟨by rfl, ?_⟩) (by assumption) ?_
          rotate_left
          · (intro wq hSq; (try dsimp only at hSq); go_simp; try with_reducible rfl)
          try simp only [Act.put, List.setIfInBounds_toArray, List.set_cons_zero, List.set_cons_succ]
          refine wpAnyT_take 3 (v := ?_) (by kernel_rfl) rfl (by kernel_rfl) (by decide) rfl (by kernel_rfl) (by kernel_rfl) (fun _ _ _ h => h) (Or.inl ⟨by rfl, ?_⟩) (by assumption) ?_
          rotate_left
          · (intro wq hSq; (try dsimp only at hSq); go_simp; try with_reducible rfl)
          try simp only [Act.put, List.setIfInBounds_toArray, List.set_cons_zero, List.set_cons_succ]
          refine wpAnyT_take 4 (v := ?_) (by kernel_rfl) rfl (by kernel_rfl) (by decide) rfl (by kernel_rfl) (by kernel_rfl) (fun _ _ _ h => h) (Or.inl ⟨by rfl, ?_⟩) (by assumption) ?_
          rotate_left
          · (intro wq hSq; (try dsimp only at hSq); go_simp; try with_reducible rfl)
          try simp only [Act.put, List.setIfInBounds_toArray, List.set_cons_zero, List.set_cons_succ]
          refine wpAnyT_take 5 (v := ?_) (by kernel_rfl) rfl (by kernel_rfl) (by decide) rfl (by kernel_rfl) (by kernel_rfl) (fun _ _ _ h => h) (Or.inl ⟨by rfl, ?_⟩) (by assumption) ?_
          rotate_left
          · (intro wq hSq; (try dsimp only at hSq); go_simp; try with_reducible rfl)
          try simp only [Act.put, List.setIfInBounds_toArray, List.set_cons_zero, List.set_cons_succ]
          refine wpAnyT_take 7 (v := ?_) (by kernel_rfl) rfl (by kernel_rfl) (by decide) rfl (by kernel_rfl) (by kernel_rfl) (fun _ _ _ h => h) (Or.inl ⟨by rfl, ?_⟩) (by assumption) ?_
          rotate_left
          · (intro wq hSq; (try dsimp only at hSq); go_simp; try with_reducible rfl)
          try simp only [Act.put, List.setIfInBounds_toArray, List.set_cons_zero, List.set_cons_succ]
          refine wpAnyT_take 8 (v := ?_) (by kernel_rfl) rfl (by kernel_rfl) (by decide) rfl (by kernel_rfl) (by kernel_rfl) (fun _ _ _ h => h) (Or.inl ⟨by rfl, ?_⟩) (by assumption) ?_
          rotate_left
          · (intro wq hSq; (try dsimp only at hSq); go_simp; try with_reducible rfl)
          try simp only [Act.put, List.setIfInBounds_toArray, List.set_cons_zero, List.set_cons_succ]
          refine wpAnyT_take 9 (v := ?_) (by kernel_rfl) rfl (by kernel_rfl) (by decide) rfl (by kernel_rfl) (by kernel_rfl) (fun _ _ _ h => h) (Or.inl ⟨by rfl, ?_⟩) (by assumption) ?_
          rotate_left
          · (intro wq hSq; (try dsimp only at hSq); go_simp; try with_reducible rfl)
          try simp only [Act.put, List.setIfInBounds_toArray, List.set_cons_zero, List.set_cons_succ]
          refine wpAnyT_take 10 (v := ?_) (by kernel_rfl) rfl (by kernel_rfl) (by decide) rfl (by kernel_rfl) (by kernel_rfl) (fun _ _ _ h => h) (Or.inl ⟨by rfl, ?_⟩) (by assumption) ?_
          rotate_left
          · (intro wq hSq; (try dsimp only at hSq); go_simp; try with_reducible rfl)
          try simp only [Act.put, List.setIfInBounds_toArray, List.set_cons_zero, List.set_cons_succ]
          refine wpAnyT_step 6 (by kernel_rfl) rfl (fun K hK => ?_)
          go_simp
          refine hK.out _ _ ⟨HK0.out.trans c00, HK1.out.trans c01⟩ (fun hHeld2 => ?_)
          clear hK K hHeld
          try simp only [Act.put, List.setIfInBounds_toArray, List.set_cons_zero, List.set_cons_succ]
          refine wpAnyT_step 11 (by kernel_rfl) rfl (fun K hK => ?_)
          refine step_append_reads (by rfl) (.tmp 26) (.tmp 30) 22 (by rfl) W0.heap.size 23 i0 (.int .u32 0) 4 Try.underlying22 hi0 hiz hiz1 hizb rfl (.slice (some ⟨W0.heap.size, 0, none⟩) 0 0) 0 [] (by rfl) HO.out _ (.slice (some ⟨b, off, none⟩) k c) ((hw n).map u32V) (by rfl) (HR.out _ HBA.out) (one_u32 _) HL1.out HL2.out HBS.out ?_
          intro v6 w6 hown6 hg6
          obtain ⟨a6, n6, c6, rfl, hb6, hn6, hk0, hk1, hg16⟩ := HF.out v6 w6 hown6 hg6
          clear hown6 hg6
          refine hK.out _ _ ⟨hk0.trans c00, hk1.trans c01⟩ (fun hHeld3 => ?_)
          have HB6 := Lib.hid hb6
          have HN6 := Lib.hid hn6
          have HG6 := Lib.hid hg16
          clear hb6 hn6 hg16 hk0 hk1
          clear hK K hHeld2
          try simp only [Act.put, List.setIfInBounds_toArray, List.set_cons_zero, List.set_cons_succ]
          refine wpAnyT_take 12 (v := ?_) (by kernel_rfl) rfl (by kernel_rfl) (by decide) rfl (by kernel_rfl) (by kernel_rfl) (fun _ _ _ h => h) (Or.inl ⟨by rfl, ?_⟩) (by assumption) ?_
          rotate_left
          · (intro wq hSq; (try dsimp only at hSq); go_simp; try with_reducible rfl)
          try simp only [Act.put, List.setIfInBounds_toArray, List.set_cons_zero, List.set_cons_succ]
          refine wpAnyT_last (by kernel_rfl) (by kernel_rfl) rfl (fun K hK => ?_)
          obtain ⟨d0, d1, fz0, fz1⟩ := num_cells HG6.out
          go_simp
          refine hK.out _ _ ?_
          clear hK K hHeld3 d0 d1 fz0 fz1
          have m2 := num_set HG6.out (.bool true) (.slice a6 n6 c6)
          have hb9 : Below w.heap.size w ((w6.setCell ⟨w.heap.size + 1, 0, none⟩ (.bool true)).setCell ⟨w.heap.size + 1, 1, none⟩ (.slice a6 n6 c6)) := (HB6.out.setCell (by simp) _).setCell (by simp) _
          have hn9 : World.owns ((w6.setCell ⟨w.heap.size + 1, 0, none⟩ (.bool true)).setCell ⟨w.heap.size + 1, 1, none⟩ (.slice a6 n6 c6)) w.heap.size 23 1 (.slice a6 n6 c6) (hw n).length ((hw n).map u32V) := ((World.owns.setCell HN6.out HZ1.out _).setCell HZ1.out _).mono HZ2.out
          obtain ⟨d20, d21, -, -⟩ := num_cells m2
          clear m2
          generalize (w6.setCell ⟨w.heap.size + 1, 0, none⟩ (.bool true)).setCell ⟨w.heap.size + 1, 1, none⟩ (.slice a6 n6 c6) = W9 at d20 d21 hb9 hn9 ⊢
          have HB9 := Lib.hid hb9
          have HN9 := Lib.hid hn9
          clear hb9 hn9
          go_wp2
          rw [HP.out]
          exact bodyPost_ret (v := .agg #[.bool true, .slice a6 n6 c6]) (by simp [results, Try.results83, go_sem, d20, d21]) rfl ⟨.slice a6 n6 c6, by rw [hSt.out], HN9.out, HB9.out⟩
        | false =>
          refine wp_region_line (fun w' => w'.cell? ⟨w.heap.size, 0, none⟩ = some (.bool false) ∧ w'.cell? ⟨w.heap.size, 1, none⟩ = some (.slice (some ⟨b, off, none⟩) L c)) 13 (by kernel_rfl) ⟨c00, c01⟩ (fun hHeld => ?_)
          refine wpAnyT_take 0 (v := ?_) (by kernel_rfl) rfl (by kernel_rfl) (by decide) rfl (by kernel_rfl) (by kernel_rfl) (fun _ _ _ h => h) (Or.inl ⟨by rfl, ?_⟩) (by assumption) ?_
          rotate_left
          · (intro wq hSq; (try dsimp only at hSq); go_simp; try with_reducible rfl)
          try simp only [Act.put, List.setIfInBounds_toArray, List.set_cons_zero, List.set_cons_succ]
          refine wpAnyT_take 1 (v := ?_) (by kernel_rfl) rfl (by kernel_rfl) (by decide) rfl (by kernel_rfl) (by kernel_rfl) (fun _ _ _ h => h) (Or.inl ⟨by rfl, ?_⟩) (by assumption) ?_
          rotate_left
          · (intro wq hSq; (try dsimp only at hSq); go_simp; try with_reducible rfl)
          try simp only [Act.put, List.setIfInBounds_toArray, List.set_cons_zero, List.set_cons_succ]
          refine wpAnyT_take 2 (v := ?_) (by kernel_rfl) rfl (by kernel_rfl) (by decide) rfl (by kernel_rfl) (by kernel_rfl) (fun _ _ _ h => h) (Or.inl ⟨by rfl, ?_⟩) (by assumption) ?_
          rotate_left
          · (intro wq hSq; (try dsimp only at hSq); go_simp; try with_reducible rfl)
          try simp only [Act.put, List.setIfInBounds_toArray, List.set_cons_zero, List.set_cons_succ]
          refine wpAnyT_take 3 (v := undef) (by kernel_rfl) rfl (by kernel_rfl) (by decide) rfl (by kernel_rfl) (by kernel_rfl) (fun _ _ _ h => h) (Or.inr ⟨by rfl, rfl⟩) (by assumption) ?_
          try simp only [Act.put, List.setIfInBounds_toArray, List.set_cons_zero, List.set_cons_succ]
          refine wpAnyT_take 4 (v := undef) (by kernel_rfl) rfl (by kernel_rfl) (by decide) rfl (by kernel_rfl) (by kernel_rfl) (fun _ _ _ h => h) (Or.inr ⟨by rfl, rfl⟩) (by assumption) ?_
          try simp only [Act.put, List.setIfInBounds_toArray, List.set_cons_zero, List.set_cons_succ]
          refine wpAnyT_take 5 (v := ?_) (by kernel_rfl) rfl (by kernel_rfl) (by decide) rfl (by kernel_rfl) (by kernel_rfl) (fun _ _ _ h => h) (Or.inl ⟨by rfl, ?_⟩) (by assumption) ?_
          rotate_left
          · (intro wq hSq; (try dsimp only at hSq); go_simp; try with_reducible rfl)
          try simp only [Act.put, List.setIfInBounds_toArray, List.set_cons_zero, List.set_cons_succ]
          refine wpAnyT_take 7 (v := ?_) (by kernel_rfl) rfl (by kernel_rfl) (by decide) rfl (by kernel_rfl) (by kernel_rfl) (fun _ _ _ h => h) (Or.inl ⟨by rfl, ?_⟩) (by assumption) ?_
          rotate_left
          · (intro wq hSq; (try dsimp only at hSq); go_simp; try with_reducible rfl)
          try simp only [Act.put, List.setIfInBounds_toArray, List.set_cons_zero, List.set_cons_succ]
          refine wpAnyT_take 8 (v := ?_) (by kernel_rfl) rfl (by kernel_rfl) (by decide) rfl (by kernel_rfl) (by kernel_rfl) (fun _ _ _ h => h) (Or.inl ⟨by rfl, ?_⟩) (by assumption) ?_
          rotate_left
          · (intro wq hSq; (try dsimp only at hSq); go_simp; try with_reducible rfl)
          try simp only [Act.put, List.setIfInBounds_toArray, List.set_cons_zero, List.set_cons_succ]
          refine wpAnyT_take 9 (v := ?_) (by kernel_rfl) rfl (by kernel_rfl) (by decide) rfl (by kernel_rfl) (by kernel_rfl) (fun _ _ _ h => h) (Or.inl ⟨by rfl, ?_⟩) (by assumption) ?_
          rotate_left
          · (intro wq hSq; (try dsimp only at hSq); go_simp; try with_reducible rfl)
          try simp only [Act.put, List.setIfInBounds_toArray, List.set_cons_zero, List.set_cons_succ]
          refine wpAnyT_take 10 (v := ?_) (by kernel_rfl) rfl (by kernel_rfl) (by decide) rfl (by kernel_rfl) (by kernel_rfl) (fun _ _ _ h => h) (Or.inl ⟨by rfl, ?_⟩) (by assumption) ?_
          rotate_left
          · (intro wq hSq; (try dsimp only at hSq); go_simp; try with_reducible rfl)
          try simp only [Act.put, List.setIfInBounds_toArray, List.set_cons_zero, List.set_cons_succ]
          refine wpAnyT_step 6 (by kernel_rfl) rfl (fun K hK => ?_)
          go_simp
          refine hK.out _ _ ⟨HK0.out.trans c00, HK1.out.trans c01⟩ (fun hHeld2 => ?_)
          clear hK K hHeld
          try simp only [Act.put, List.setIfInBounds_toArray, List.set_cons_zero, List.set_cons_succ]
          refine wpAnyT_step 11 (by kernel_rfl) rfl (fun K hK => ?_)
          refine step_append_reads (by rfl) (.tmp 26) (.tmp 30) 22 (by rfl) W0.heap.size 23 i0 (.int .u32 0) 4 Try.underlying22 hi0 hiz hiz1 hizb rfl (.slice (some ⟨W0.heap.size, 0, none⟩) 0 0) 0 [] (by rfl) HO.out _ (.slice (some ⟨b, off, none⟩) k c) ((hw n).map u32V) (by rfl) (HR.out _ HBA.out) (one_u32 _) HL1.out HL2.out HBS.out ?_
          intro v6 w6 hown6 hg6
          obtain ⟨a6, n6, c6, rfl, hb6, hn6, hk0, hk1, hg16⟩ := HF.out v6 w6 hown6 hg6
          clear hown6 hg6
          refine hK.out _ _ ⟨hk0.trans c00, hk1.trans c01⟩ (fun hHeld3 => ?_)
          have HB6 := Lib.hid hb6
          have HN6 := Lib.hid hn6
          have HG6 := Lib.hid hg16
          clear hb6 hn6 hg16 hk0 hk1
          clear hK K hHeld2
          try simp only [Act.put, List.setIfInBounds_toArray, List.set_cons_zero, List.set_cons_succ]
          refine wpAnyT_take 12 (v := ?_) (by kernel_rfl) rfl (by kernel_rfl) (by decide) rfl (by kernel_rfl) (by kernel_rfl) (fun _ _ _ h => h) (Or.inl ⟨by rfl, ?_⟩) (by assumption) ?_
          rotate_left
          · (intro wq hSq; (try dsimp only at hSq); go_simp; try with_reducible rfl)
          try simp only [Act.put, List.setIfInBounds_toArray, List.set_cons_zero, List.set_cons_succ]
          refine wpAnyT_last (by kernel_rfl) (by kernel_rfl) rfl (fun K hK => ?_)
          obtain ⟨d0, d1, fz0, fz1⟩ := num_cells HG6.out
          go_simp
          refine hK.out _ _ ?_
          clear hK K hHeld3 d0 d1 fz0 fz1
          have m2 := num_set HG6.out (.bool false) (.slice a6 n6 c6)
          have hb9 : Below w.heap.size w ((w6.setCell ⟨w.heap.size + 1, 0, none⟩ (.bool false)).setCell ⟨w.heap.size + 1, 1, none⟩ (.slice a6 n6 c6)) := (HB6.out.setCell (by simp) _).setCell (by simp) _
          have hn9 : World.owns ((w6.setCell ⟨w.heap.size + 1, 0, none⟩ (.bool false)).setCell ⟨w.heap.size + 1, 1, none⟩ (.slice a6 n6 c6)) w.heap.size 23 1 (.slice a6 n6 c6) (hw n).length ((hw n).map u32V) := ((World.owns.setCell HN6.out HZ1.out _).setCell HZ1.out _).mono HZ2.out
          obtain ⟨d20, d21, -, -⟩ := num_cells m2
          clear m2
          generalize (w6.setCell ⟨w.heap.size + 1, 0, none⟩ (.bool false)).setCell ⟨w.heap.size + 1, 1, none⟩ (.slice a6 n6 c6) = W9 at d20 d21 hb9 hn9 ⊢
          have HB9 := Lib.hid hb9
          have HN9 := Lib.hid hn9
          clear hb9 hn9
          go_wp2
          rw [HP.out]
          exact bodyPost_ret (v := .agg #[.bool false, .slice a6 n6 c6]) (by simp [results, Try.results83, go_sem, d20, d21]) rfl ⟨.slice a6 n6 c6, by rw [hSt.out], HN9.out, HB9.out⟩
theorem htrim_any (s : Bool) (n L : Nat) (hn : n < 65536 ^ L) (hL : L ≤ 10000) (v : Value) (w : World) (hv : World.rawH w v n L) :
    Calls Try.prog 83 #[.agg #[.bool s, v]] w (SRet w (s && decide (n ≠ 0)) n) := (htrim_own s n L hn hL v w hv).mono fun _ _ h => h.ret
end Go.Proofs.Ytnjblppapmflhaa

/- The reference's numbers with signs: a small integer; the negative; the integer of a form. -/
namespace Go.Proofs.Ytnjblppapmflhaa
set_option linter.all false
open Go.RowKit Go.Shelf Go.WideNum
theorem SRet.bel {w w' : World} {s : Bool} {n : Nat} {e : Ending} (h : SRet w s n e w') : Below w.heap.size w w' := h.choose_spec.2.2
theorem two_raw (n : Nat) (hn : n < 4294967296) (W : World) : World.rawH (W.alloc (.cells #[.int .u32 ((n % 65536 : Nat) : Int), .int .u32 ((n / 65536 : Nat) : Int)] 23)) (.slice (some ⟨W.heap.size, 0, none⟩) 2 2) n 2 := by
  have e : ((List.range 2).map (dig 65536 n)).map u32V = [.int .u32 ((n % 65536 : Nat) : Int), .int .u32 ((n / 65536 : Nat) : Int)] := by
    have h1 : n / 65536 % 65536 = n / 65536 := by omega
    simp [List.range_succ, dig, u32V, h1]
  have h := reads_alloc_new W [.int .u32 ((n % 65536 : Nat) : Int), .int .u32 ((n / 65536 : Nat) : Int)] 23 2 (by simp) (by unfold maxLen; omega)
  show World.reads _ _ _ _
  rw [e]
  simpa using h
set_option maxRecDepth 100000 in
set_option maxHeartbeats 8000000 in
theorem word_any (n : Nat) (hn : n < 4294967296) (w : World) : Calls Try.prog 64 #[.int .u32 (n : Int)] w (SRet w false n) := by
  obtain ⟨x, hx⟩ : ∃ x, x = n % 65536 := ⟨_, rfl⟩
  obtain ⟨y, hy⟩ : ∃ x, x = n / 65536 := ⟨_, rfl⟩
  have hraw := two_raw n hn (w.alloc (.cells #[.bool false, .slice none 0 0] 86))
  rw [← hx, ← hy, show (w.alloc (.cells #[.bool false, .slice none 0 0] 86)).heap.size = w.heap.size + 1 by simp] at hraw
  have hb1 : Below w.heap.size w ((w.alloc (.cells #[.bool false, .slice none 0 0] 86)).alloc (.cells #[.int .u32 (x : Int), .int .u32 (y : Int)] 23)) := (((Below.refl _ w).alloc (Nat.le_refl _) _).alloc (by simp) _)
  have hg1 : ((w.alloc (.cells #[.bool false, .slice none 0 0] 86)).alloc (.cells #[.int .u32 (x : Int), .int .u32 (y : Int)] 23)).heap[w.heap.size]? = some (.cells #[.bool false, .slice none 0 0] 86) := by rw [Below.heap_alloc _ _ _ (by simp)]; exact heap_alloc_new w _
  have HR := Lib.hid hraw
  have HB1 := Lib.hid hb1
  have HG1 := Lib.hid hg1
  have t1 : (n : Int) % 65536 = (x : Int) := by omega
  have t2 : (n : Int) / 65536 = (y : Int) := by omega
  obtain ⟨HPOST, hpost⟩ : ∃ R, R = SRet w false n := ⟨_, rfl⟩
  rw [← hpost]
  have HP := Lib.hid hpost
  have hn2 : (n : Int) < 4294967296 := by omega
  have HN : Hid (n < 65536 ^ 2) := by show n < 65536 ^ 2; omega
  clear hpost hx hy hraw hb1 hg1 hn
  go_enter Try.func64, Try.ntmps64
  go_wp2_with fail
  (with_reducible refine (htrim_any false n 2 HN.out (by omega) _ _ HR.out).mono ?_)
  rintro e w5 ⟨v5, rfl, hn5, hb5⟩
  obtain ⟨a5, c5, rfl⟩ := reads_len hn5
  obtain ⟨L5, hL5⟩ : ∃ L, L = ((hw n).map u32V).length := ⟨_, rfl⟩
  rw [← hL5] at hn5 ⊢
  clear hL5
  have hg5 := (hb5.block w.heap.size (by simp; omega)).trans HG1.out
  have HB5 := Lib.hid (HB1.out.trans (hb5.mono HB1.out.size))
  have HN5 := Lib.hid hn5
  have HG5 := Lib.hid hg5
  obtain ⟨d0, d1, fz0, fz1⟩ := num_cells hg5
  have hlt5 := lt_of_heap hg5
  clear hn5 hb5 hg5 t1 t2
  go_wp2
  have m2 := num_set HG5.out (.bool false) (.slice a5 L5 c5)
  have hb9 : Below w.heap.size w ((w5.setCell ⟨w.heap.size, 0, none⟩ (.bool false)).setCell ⟨w.heap.size, 1, none⟩ (.slice a5 L5 c5)) := (HB5.out.setCell (by simp) _).setCell (by simp) _
  have hn9 := numH_set HN5.out HG5.out (.bool false) (.slice a5 L5 c5)
  obtain ⟨d20, d21, -, -⟩ := num_cells m2
  clear m2
  generalize (w5.setCell ⟨w.heap.size, 0, none⟩ (.bool false)).setCell ⟨w.heap.size, 1, none⟩ (.slice a5 L5 c5) = W9 at d20 d21 hb9 hn9 ⊢
  rw [HP.out]
  exact bodyPost_ret (v := .agg #[.bool false, .slice a5 L5 c5]) (by simp [results, Try.results64, go_sem, d20, d21]) rfl ⟨.slice a5 L5 c5, rfl, hn9, hb9⟩
set_option maxRecDepth 100000 in
set_option maxHeartbeats 8000000 in
theorem negative_any (s : Bool) (n L : Nat) (hn : n < 65536 ^ L) (hL : L ≤ 10000) (v : Value) (w : World) (hv : World.rawH w v n L) : Calls Try.prog 61 #[.agg #[.bool s, v]] w (SRet w (!s && decide (n ≠ 0)) n) := by
  obtain ⟨a, c, hva, -, -, -⟩ := rawH_words hv
  subst hva
  have HV : Hid (World.rawH w (.slice a L c) n L) := hv
  clear hv
  obtain ⟨W0, hW0⟩ : ∃ W0, W0 = (w.alloc (.cells #[.bool s, .slice a L c] 86)).alloc (.cells #[.bool false, .slice none 0 0] 86) := ⟨_, rfl⟩
  have g0 : W0.heap[w.heap.size]? = some (.cells #[.bool s, .slice a L c] 86) := by rw [hW0, Below.heap_alloc _ _ _ (by simp)]; exact heap_alloc_new w _
  have g1 : W0.heap[w.heap.size + 1]? = some (.cells #[.bool false, .slice none 0 0] 86) := by rw [hW0]; exact alloc_last _ _ (by simp)
  have hb0 : Below w.heap.size w W0 := by rw [hW0]; exact (((Below.refl _ w).alloc (Nat.le_refl _) _).alloc (by simp) _)
  have HB0 := Lib.hid hb0
  have HG1 := Lib.hid g1
  obtain ⟨c00, c01, f00, f01⟩ := num_cells g0
  have HW0 := Lib.hid hW0
  have HN := Lib.hid hn
  have HL := Lib.hid hL
  obtain ⟨S, hS⟩ : ∃ S, S = (!s && decide (n ≠ 0)) := ⟨_, rfl⟩
  rw [← hS]
  have htr := fun W => fun h => htrim_any (!s) n L hn hL (.slice a L c) W h
  rw [← hS] at htr
  have HTR := Lib.hid htr
  obtain ⟨HPOST, hpost⟩ : ∃ R, R = SRet w S n := ⟨_, rfl⟩
  rw [← hpost]
  have HP := Lib.hid hpost
  clear hb0 g0 g1 hW0 hn hL hS htr hpost
  go_enter Try.func61, Try.ntmps61
  go_upto_region 1 with (fail)
  rw [← HW0.out]
  go_wp2_with fail
  (with_reducible refine (HTR.out _ (rawH_below HV.out HB0.out)).mono ?_)
  rintro e w5 ⟨v5, rfl, hn5, hb5⟩
  obtain ⟨a5, c5, rfl⟩ := reads_len hn5
  obtain ⟨L5, hL5⟩ : ∃ L, L = ((hw n).map u32V).length := ⟨_, rfl⟩
  rw [← hL5] at hn5 ⊢
  clear hL5
  have hg5 := (hb5.block (w.heap.size + 1) (lt_of_heap HG1.out)).trans HG1.out
  have HB5 := Lib.hid (HB0.out.trans (hb5.mono HB0.out.size))
  have HN5 := Lib.hid hn5
  have HG5 := Lib.hid hg5
  obtain ⟨d0, d1, fz0, fz1⟩ := num_cells hg5
  clear hn5 hb5 hg5
  go_wp2
  have m2 := num_set HG5.out (.bool S) (.slice a5 L5 c5)
  have hb9 : Below w.heap.size w ((w5.setCell ⟨w.heap.size + 1, 0, none⟩ (.bool S)).setCell ⟨w.heap.size + 1, 1, none⟩ (.slice a5 L5 c5)) := (HB5.out.setCell (by simp) _).setCell (by simp) _
  have hn9 := numH_set HN5.out HG5.out (.bool S) (.slice a5 L5 c5)
  obtain ⟨d20, d21, -, -⟩ := num_cells m2
  clear m2
  generalize (w5.setCell ⟨w.heap.size + 1, 0, none⟩ (.bool S)).setCell ⟨w.heap.size + 1, 1, none⟩ (.slice a5 L5 c5) = W9 at d20 d21 hb9 hn9 ⊢
  rw [HP.out]
  exact bodyPost_ret (v := .agg #[.bool S, .slice a5 L5 c5]) (by simp [results, Try.results61, go_sem, d20, d21]) rfl ⟨.slice a5 L5 c5, rfl, hn9, hb9⟩
end Go.Proofs.Ytnjblppapmflhaa

/- The reference's numbers with signs: the integer of a form. -/
namespace Go.Proofs.Ytnjblppapmflhaa
set_option linter.all false
open Go.RowKit Go.Shelf Go.WideNum
theorem num_set1 {W : World} {g : Nat} {u0 u1 : Value} {T : TypeId} (h : W.heap[g]? = some (.cells #[u0, u1] T)) (y : Value) :
    (W.setCell ⟨g, 1, none⟩ y).heap[g]? = some (.cells #[u0, y] T) := by
  simp [World.setCell, Array.getElem?_modify, h]
theorem cell_other {W : World} {g b o : Nat} (hb : b ≠ g) (y : Value) : (W.setCell ⟨g, o, none⟩ y).heap[b]? = W.heap[b]? := by
  simp [World.setCell, Array.getElem?_modify, Ne.symm hb]
theorem pow2 (q : Nat) : 65536 ^ q = 256 ^ (2 * q) := by rw [show (65536 : Nat) = 256 ^ 2 by rfl, ← Nat.pow_mul]
theorem hw_halves (n : Nat) : (hw n).length = ((words 256 n).length + 1) / 2 := by
  obtain ⟨N, hN⟩ : ∃ N, N = (words 256 n).length := ⟨_, rfl⟩
  rw [← hN]
  have h1 : n < 256 ^ N := by rw [hN]; exact words_vlt (by omega) n
  have h2 : (hw n).length ≤ (N + 1) / 2 := hw_len_le (by rw [pow2]; exact Nat.lt_of_lt_of_le h1 (Nat.pow_le_pow_right (by omega) (by omega)))
  rcases Nat.eq_zero_or_pos N with h0 | h0
  · omega
  · have h3 : 256 ^ (N - 1) ≤ n := by
      rcases Nat.lt_or_ge n (256 ^ (N - 1)) with h | h
      · have := words_length (B := 256) (by omega) n (N - 1) h
        omega
      · exact h
    have h4 : (N - 1) / 2 < (hw n).length := words_lenlt (B := 65536) (by omega) n _ (by rw [pow2]; exact Nat.le_trans (Nat.pow_le_pow_right (by omega) (by omega)) h3)
    omega
theorem dig_halves (n k : Nat) : dig 65536 n k = dig 256 n (2 * k) + 256 * dig 256 n (2 * k + 1) := by
  unfold dig
  rw [pow2, Nat.pow_succ, ← Nat.div_div_eq_div_mul]
  generalize n / 256 ^ (2 * k) = m
  omega
set_option maxRecDepth 100000 in
set_option maxHeartbeats 8000000 in
theorem in_any (neg : Bool) (s : ByteArray) (hv : validB neg s = true) (w : World) : Calls Try.prog 57 #[.agg #[.bool neg, .string s]] w (SRet w neg (numB s)) := by
  obtain ⟨-, hmag, -, hs⟩ := valid_spec neg s hv
  obtain ⟨n, hn⟩ : ∃ n, n = numB s := ⟨_, rfl⟩
  rw [← hn] at hmag ⊢
  have hlen : (words 256 n).length = s.size := by
    rw [← magL_length, ← hmag]; rfl
  have HBY : Hid (∀ i (h : i < s.size), (s[i].toNat) = dig 256 n (s.size - 1 - i)) := fun i h => by rw [hn]; exact byte_dig s.data.toList i h
  obtain ⟨N, hN⟩ : ∃ N, N = s.size := ⟨_, rfl⟩
  have hM := hw_halves n
  rw [hlen, ← hN] at hM
  have HNL : Hid (n < 256 ^ N) := by show _ < _; rw [hN, ← hlen]; exact words_vlt (by omega) n
  have HN := Lib.hid hN
  have HM := Lib.hid hM
  have hs2 : N ≤ 256 := by omega
  have hNI : (s.size : Int) = (N : Int) := by rw [hN]
  clear hv hmag hn hlen hN hM hs
  obtain ⟨HPOST, hpost⟩ : ∃ R, R = SRet w neg n := ⟨_, rfl⟩
  rw [← hpost]
  have HP := Lib.hid hpost
  clear hpost
  go_enter Try.func57, Try.ntmps57
  go_wp2_with fail
  go_loopw [4] (fun iv wr => ∃ (k : Nat) (xa : Option Addr) (xc : Nat), 2 * k ≤ N + 1 ∧ iv = .int .i64 ((N : Int) - 1 - 2 * (k : Int)) ∧ Hid (wr.heap[w.heap.size]? = some (.cells #[.bool neg, .string s] 38)) ∧ Hid (wr.heap[w.heap.size + 1]? = some (.cells #[.bool false, .slice none 0 0] 86)) ∧ Hid (wr.heap[w.heap.size + 1 + 1]? = some (.cells #[.bool neg, .slice xa k xc] 86)) ∧ Hid (wr.owns (w.heap.size + 1 + 1 + 1) 23 1 (.slice xa k xc) k (((List.range k).map (dig 65536 n)).map u32V)) ∧ Hid (Below w.heap.size w wr) ∧ w.heap.size + 1 + 1 + 1 ≤ wr.heap.size) (fun iv _ => (intOf iv + 2).toNat)
  case atStart =>
    refine ⟨0, none, 0, by omega, by simp, ?_, ?_, ?_, owns_nil _ _ _, ?_, by simp⟩
    · show _ = _; rw [Below.heap_alloc _ _ _ (by simp; omega), Below.heap_alloc _ _ _ (by simp)]; exact heap_alloc_new w _
    · show _ = _; rw [Below.heap_alloc _ _ _ (by simp)]; exact alloc_last _ _ (by simp)
    · show _ = _; exact alloc_last _ _ (by simp)
    · show Below _ _ _
      exact ((((Below.refl _ w).alloc (Nat.le_refl _) _).alloc (by simp) _).alloc (by simp; omega) _)
  case round =>
    obtain ⟨k, xa, xc, hk, rfl, hG0, hG1, hG2, hO, hB, hz⟩ := hrel
    obtain ⟨c00, c01, f00⟩ := num_cells hG0.out
    obtain ⟨c20, c21, f20, f21⟩ := num_cells hG2.out
    by_cases hlt : 2 * k < N
    · obtain ⟨j, hj⟩ : ∃ j, j + 2 * k + 1 = N := ⟨N - 1 - 2 * k, by omega⟩
      rw [show (N : Int) - 1 - 2 * (k : Int) = (j : Int) by omega]
      have hNs := HN.out
      have hj1 : j < s.size := by omega
      have hj2 : (j : Int) < (s.size : Int) := by omega
      have hj0 : (0 : Int) ≤ (j : Int) := by omega
      have hbx := HBY.out j hj1
      rw [show s.size - 1 - j = 2 * k by omega] at hbx
      obtain ⟨x, ex⟩ : ∃ x, x = (s[j]'hj1).toNat := ⟨_, rfl⟩
      have hxx : ((s[j]'hj1).toNat : Int) = (x : Int) := by rw [ex]
      have hx256 : x < 256 := by rw [ex]; exact (s[j]'hj1).toNat_lt
      rw [← ex] at hbx
      have hz0 := dig_halves n k
      rw [← hbx] at hz0
      obtain ⟨z, ez⟩ : ∃ x, x = dig 65536 n k := ⟨_, rfl⟩
      rw [← ez] at hz0
      have EZ := Lib.hid ez
      clear ex ez hbx hNs
      by_cases hp : 0 < j
      · obtain ⟨m, rfl⟩ : ∃ m, j = m + 1 := ⟨j - 1, by omega⟩
        have hm1 : m < s.size := by omega
        have hby := HBY.out m hm1
        have hNs := HN.out
        rw [show s.size - 1 - m = 2 * k + 1 by omega] at hby
        obtain ⟨y, ey⟩ : ∃ x, x = (s[m]'hm1).toNat := ⟨_, rfl⟩
        have hyy : ((s[m]'hm1).toNat : Int) = (y : Int) := by rw [ey]
        have hy256 : y < 256 := by rw [ey]; exact (s[m]'hm1).toNat_lt
        rw [← ey] at hby
        rw [← hby] at hz0
        have hm0 : (0 : Int) ≤ (m : Int) := by omega
        have hm2 : (m : Int) < (s.size : Int) := by omega
        have hm3 : ((m + 1 : Nat) : Int) - 1 = (m : Int) := by omega
        have hp2 : (0 : Int) < ((m + 1 : Nat) : Int) := by omega
        have t1 : (x : Int) + 256 * (y : Int) = (z : Int) := by omega
        have HJ := Lib.hid hj
        clear ey hby hNs hz0
        go_wp2_with (at_builtin; refine app_u32 wr 22 Try.underlying22 rfl (.tmp 34) (.tmp 36) rfl (w.heap.size + 1 + 1 + 1) (.slice xa k xc) k _ rfl hO.out (z : Int) wr.heap.size rfl rfl (by omega) hz ?_; intro v5 w5 hown5 hg5 hz5; have HO5 := Lib.hid hown5; obtain ⟨g5, q5, rfl⟩ := hown5.succ; have hb5 := below_grown hO.out hg5 (w.heap.size + 1 + 1 + 1) (Nat.le_refl _) hz; have HB5 := Lib.hid hb5; have K0 := Lib.hid ((hb5.block _ (by omega)).trans hG0.out); have K1 := Lib.hid ((hb5.block _ (by omega)).trans hG1.out); have hk2 := (hb5.block _ (by omega)).trans hG2.out; have K2 := Lib.hid hk2; obtain ⟨e20, e21, i20, i21⟩ := num_cells hk2; clear hown5 hg5 hb5 hk2)
        go_roundw
        case rel =>
          refine ⟨k + 1, some ⟨g5, 0, none⟩, q5, by omega, by first | (congr 1; omega) | go_num, ?_, ?_, ?_, ?_, ?_, ?_⟩
          · show _ = _; rw [cell_other (by omega)]; exact K0.out
          · show _ = _; rw [cell_other (by omega)]; exact K1.out
          · show _ = _; exact num_set1 K2.out _
          · show World.owns _ _ _ _ _ _ _
            refine World.owns.setCell ?_ (by simp) _
            rw [List.range_succ, List.map_append, List.map_append]
            show w5.owns _ _ _ _ _ (_ ++ [u32V (dig 65536 n k)])
            rw [← EZ.out]
            exact HO5.out
          · show Below _ _ _
            exact (hB.out.trans (HB5.out.mono (by omega))).setCell (by simp; omega) _
          · simp; omega
        case measure => first | (simp [intOf]; done) | (simp [intOf]; omega)
      · obtain rfl : j = 0 := by omega
        have hd : dig 256 n (2 * k + 1) = 0 := dig_high (by omega) n _ (by rw [show 2 * k + 1 = N by omega]; exact HNL.out)
        rw [hd] at hz0
        obtain rfl : x = z := by omega
        clear hd hz0 hp
        go_wp2_with (at_builtin; refine app_u32 wr 22 Try.underlying22 rfl (.tmp 34) (.tmp 36) rfl (w.heap.size + 1 + 1 + 1) (.slice xa k xc) k _ rfl hO.out (x : Int) wr.heap.size rfl rfl (by omega) hz ?_; intro v5 w5 hown5 hg5 hz5; have HO5 := Lib.hid hown5; obtain ⟨g5, q5, rfl⟩ := hown5.succ; have hb5 := below_grown hO.out hg5 (w.heap.size + 1 + 1 + 1) (Nat.le_refl _) hz; have HB5 := Lib.hid hb5; have K0 := Lib.hid ((hb5.block _ (by omega)).trans hG0.out); have K1 := Lib.hid ((hb5.block _ (by omega)).trans hG1.out); have hk2 := (hb5.block _ (by omega)).trans hG2.out; have K2 := Lib.hid hk2; obtain ⟨e20, e21, i20, i21⟩ := num_cells hk2; clear hown5 hg5 hb5 hk2)
        go_roundw
        case rel =>
          refine ⟨k + 1, some ⟨g5, 0, none⟩, q5, by omega, by first | (congr 1; omega) | go_num, ?_, ?_, ?_, ?_, ?_, ?_⟩
          · show _ = _; rw [cell_other (by omega)]; exact K0.out
          · show _ = _; rw [cell_other (by omega)]; exact K1.out
          · show _ = _; exact num_set1 K2.out _
          · show World.owns _ _ _ _ _ _ _
            refine World.owns.setCell ?_ (by simp) _
            rw [List.range_succ, List.map_append, List.map_append]
            show w5.owns _ _ _ _ _ (_ ++ [u32V (dig 65536 n k)])
            rw [← EZ.out]
            exact HO5.out
          · show Below _ _ _
            exact (hB.out.trans (HB5.out.mono (by omega))).setCell (by simp; omega) _
          · simp; omega
        case measure => first | (simp [intOf]; done) | (simp [intOf]; omega)
    · have h0 : ¬ (0 : Int) ≤ (N : Int) - 1 - 2 * (k : Int) := by omega
      obtain rfl : k = (hw n).length := by have := HM.out; omega
      obtain ⟨d10, d11, f10, f11⟩ := num_cells hG1.out
      have hN : World.numH wr (.slice xa (hw n).length xc) n := rawH_num hO.out.reads rfl
      obtain ⟨k, hk'⟩ : ∃ k, k = (hw n).length := ⟨_, rfl⟩
      rw [← hk'] at hO hG2 hN h0 c21 hk hlt ⊢
      have HN2 := Lib.hid hN
      clear hN hk'
      go_wp2
      have m2 := num_set hG1.out (.bool neg) (.slice xa k xc)
      have hb9 : Below w.heap.size w ((wr.setCell ⟨w.heap.size + 1, 0, none⟩ (.bool neg)).setCell ⟨w.heap.size + 1, 1, none⟩ (.slice xa k xc)) := (hB.out.setCell (by simp) _).setCell (by simp) _
      have hn9 := numH_set HN2.out hG1.out (.bool neg) (.slice xa k xc)
      obtain ⟨d20, d21, -, -⟩ := num_cells m2
      clear m2 d10 d11 f10 f11
      generalize (wr.setCell ⟨w.heap.size + 1, 0, none⟩ (.bool neg)).setCell ⟨w.heap.size + 1, 1, none⟩ (.slice xa k xc) = W9 at d20 d21 hb9 hn9 ⊢
      rw [HP.out]
      exact bodyPost_ret (v := .agg #[.bool neg, .slice xa k xc]) (by simp [results, Try.results57, go_sem, d20, d21]) rfl ⟨.slice xa k xc, rfl, hn9, hb9⟩
end Go.Proofs.Ytnjblppapmflhaa

/- Wide integers: helpers and walks, in one text (WD5 WD6 WD7 WD8 WD9 WMa). -/
/- Walks: quotient and rest of two forms. -/
namespace Go.Proofs.Ytnjblppapmflhaa
set_option linter.all false
open Go.RowKit Go.Shelf Go.WideNum
/-- What Div answers: quotient, rest, error. -/
def divF (na : Bool) (sa : ByteArray) (nb : Bool) (sb : ByteArray) : Value × Value × Int :=
  if validB na sa && (validB nb sb && decide (sb.size ≠ 0)) then (outZ (zV na sa / zV nb sb), outZ (zV na sa % zV nb sb), errZ (zV na sa / zV nb sb)) else (emptyW, emptyW, 2)
theorem form_numZ (n : Nat) (neg : Bool) (v : Value) (w : World) (h : World.numR w v n) (hl : (wd n).length ≤ 2000) : ∃ b t, outZ (zOf neg n) = .agg #[.bool b, .string t] ∧
    Calls Try.prog 67 #[v, .bool neg] w fun e w' => e = .returned (.tuple #[.agg #[.bool b, .string t], .int .i64 (errZ (zOf neg n))]) ∧ Below w.heap.size w w' := by
  have hwide : ∃ b t, outB neg n = .agg #[.bool b, .string t] := by unfold outB emptyW wideV; split <;> exact ⟨_, _, rfl⟩
  obtain ⟨b, t, hbt⟩ := hwide
  refine ⟨b, t, by rw [← outB_z]; exact hbt, ?_⟩
  have := form_num n neg v w h hl
  unfold FormRet at this
  rwa [hbt, outE_z neg] at this
theorem two_forms (na : Bool) (sa : ByteArray) (nb : Bool) (sb : ByteArray) (W : World) (g : Nat) (h : W.heap[g]? = some (.cells #[.bool na, .string sa, .bool nb, .string sb] 38)) : World.forms W g [(na, sa), (nb, sb)] := by
  intro k x hk
  match k, hk with
  | 0, hk => injection hk with hk; subst hk; exact ⟨by rw [cell_of_row W _ _ _ _ (0, 0) h]; rfl, by rw [cell_of_row W _ _ _ _ (0, 0) h]; rfl⟩
  | 1, hk => injection hk with hk; subst hk; exact ⟨by rw [cell_of_row W _ _ _ _ (0, 0) h]; rfl, by rw [cell_of_row W _ _ _ _ (0, 0) h]; rfl⟩
  | k + 2, hk => simp at hk
theorem valid2_any (na : Bool) (sa : ByteArray) (nb : Bool) (sb : ByteArray) (hsa : sa.size ≤ maxLen) (hsb : sb.size ≤ maxLen) (W : World) (g : Nat) (h : W.heap[g]? = some (.cells #[.bool na, .string sa, .bool nb, .string sb] 38)) :
    Calls Try.prog 76 #[.slice (some ⟨g, 0, none⟩) 2 2] W fun e w' => e = .returned (.bool (validB na sa && validB nb sb)) ∧ Below W.heap.size W w' := by
  have := valid_any [(na, sa), (nb, sb)] g (by simp) (by simp [hsa, hsb]) W (two_forms na sa nb sb W g h) (lt_of_heap h)
  simpa using this
theorem wide_other {W : World} {p q : Nat} (h : p ≠ q) (neg : Bool) (s : ByteArray) : ((W.setCell ⟨q, 0, none⟩ (.bool neg)).setCell ⟨q, 1, none⟩ (.string s)).heap[p]? = W.heap[p]? := by
  rw [Below.heap_setCell _ _ _ _ h, Below.heap_setCell _ _ _ _ h]
theorem wide_set2 {W : World} {p q : Nat} {u0 u1 v0 v1 : Value} (hp : W.heap[p]? = some (.cells #[u0, u1] 38)) (hq : W.heap[q]? = some (.cells #[v0, v1] 38)) (h : p ≠ q) (b : Bool) (s : ByteArray) (c : Bool) (t : ByteArray) :
    ((((W.setCell ⟨p, 0, none⟩ (.bool b)).setCell ⟨p, 1, none⟩ (.string s)).setCell ⟨q, 0, none⟩ (.bool c)).setCell ⟨q, 1, none⟩ (.string t)).heap[p]? = some (.cells #[.bool b, .string s] 38) ∧
    ((((W.setCell ⟨p, 0, none⟩ (.bool b)).setCell ⟨p, 1, none⟩ (.string s)).setCell ⟨q, 0, none⟩ (.bool c)).setCell ⟨q, 1, none⟩ (.string t)).heap[q]? = some (.cells #[.bool c, .string t] 38) :=
  ⟨(wide_other h c t).trans (wide_set hp b s), wide_set ((wide_other (Ne.symm h) b s).trans hq) c t⟩
theorem keep4 {W : World} {p q : Nat} {b c : Bool} {s t : ByteArray} (h2 : W.heap[p]? = some (.cells #[.bool b, .string s] 38)) (h3 : W.heap[q]? = some (.cells #[.bool c, .string t] 38)) :
    W.cell? ⟨p, 0, none⟩ = some (.bool b) ∧ W.cell? ⟨p, 1, none⟩ = some (.string s) ∧ W.cell? ⟨q, 0, none⟩ = some (.bool c) ∧ W.cell? ⟨q, 1, none⟩ = some (.string t) :=
  ⟨(wide_cells h2).1, (wide_cells h2).2.1, (wide_cells h3).1, (wide_cells h3).2.1⟩
theorem below_set2 {w W : World} {p : Nat} (hb : Below w.heap.size w W) (hp : w.heap.size ≤ p) (b : Bool) (s : ByteArray) : Below w.heap.size w ((W.setCell ⟨p, 0, none⟩ (.bool b)).setCell ⟨p, 1, none⟩ (.string s)) := (hb.setCell hp _).setCell hp _
end Go.Proofs.Ytnjblppapmflhaa

/- Walks: the balanced remainder. -/
namespace Go.Proofs.Ytnjblppapmflhaa
set_option linter.all false
open Go.RowKit Go.Shelf Go.WideNum
def balZ (a m : Int) : Int := if m < 2 * (a % m) then a % m - m else a % m
def balF (na : Bool) (sa : ByteArray) (nb : Bool) (sb : ByteArray) : Value × Int :=
  if validB na sa && posB nb sb then (outZ (balZ (zV na sa) (zV nb sb)), errZ (balZ (zV na sa) (zV nb sb))) else (emptyW, 2)
theorem NumRet.belD {w w' : World} {e : Ending} {n : Nat} (h : NumRet w.drew n e w') : Below w.heap.size w w' := ((Below.refl w.heap.size w).drew).trans h.bel
theorem left_num (A k : Nat) (hk : k ≤ 100000) (va : Value) (w : World) (hA : World.numR w va A) (hla : (wd A).length ≤ 2000) (z : Int) (hz : z = (k : Int)) :
    Calls Try.prog 99 #[va, .int .i64 z] w (NumRet w (A * 2 ^ k)) := by subst hz; exact left_any A k hk va w hA hla
theorem wd_len_le {A C k : Nat} (h : A ≤ C) (hc : (wd C).length ≤ k) : (wd A).length ≤ k := by
  have h1 := words_length (B := 4294967296) (by omega) A (wd C).length (Nat.lt_of_le_of_lt h (wd_vlt C))
  unfold wd at *; omega
theorem wd_len_double {A k : Nat} (hc : (wd A).length ≤ k) : (wd (A * 2 ^ 1)).length ≤ k + 1 := by
  have h1 := wd_vlt A
  have h2 := words_length (B := 4294967296) (by omega) (A * 2 ^ 1) ((wd A).length + 1) (by rw [Nat.pow_succ]; omega)
  unfold wd at *; omega
set_option maxRecDepth 100000 in
set_option maxHeartbeats 8000000 in
theorem Balanced_any (na : Bool) (sa : ByteArray) (nb : Bool) (sb : ByteArray) (hsa : sa.size ≤ maxLen) (hsb : sb.size ≤ maxLen)
    (hD : validB na sa = true → validB nb sb = true → sb.size ≠ 0 → DivOK (numB sa) (numB sb)) (w : World) :
    Calls Try.prog 82 #[.agg #[.bool na, .string sa], .agg #[.bool nb, .string sb]] w fun e w' => e = .returned (.tuple #[(balF na sa nb sb).1, .int .i64 (balF na sa nb sb).2]) ∧ Below w.heap.size w w' := by
  obtain ⟨HPOST, hpost⟩ : ∃ X : Ending → World → Prop, X = fun e w' => e = .returned (.tuple #[(balF na sa nb sb).1, .int .i64 (balF na sa nb sb).2]) ∧ Below w.heap.size w w' := ⟨_, rfl⟩
  rw [← hpost]
  have HP := Lib.hid hpost
  clear hpost
  obtain ⟨W0, hW0⟩ : ∃ W0, W0 = ((w.alloc (.cells #[.bool na, .string sa] 38)).alloc (.cells #[.bool nb, .string sb] 38)).alloc (.cells #[.bool false, .string ⟨#[]⟩] 38) := ⟨_, rfl⟩
  have g0 : W0.heap[w.heap.size]? = some (.cells #[.bool na, .string sa] 38) := by rw [hW0]; repeat (first | (refine alloc_last _ _ ?_; simp only [World.size_alloc]; done) | (rw [Below.heap_alloc]; rotate_left; (simp only [World.size_alloc]; omega)))
  have g1 : W0.heap[w.heap.size + 1]? = some (.cells #[.bool nb, .string sb] 38) := by rw [hW0]; repeat (first | (refine alloc_last _ _ ?_; simp only [World.size_alloc]; done) | (rw [Below.heap_alloc]; rotate_left; (simp only [World.size_alloc]; omega)))
  have g2 : W0.heap[w.heap.size + 1 + 1]? = some (.cells #[.bool false, .string ⟨#[]⟩] 38) := by rw [hW0]; repeat (first | (refine alloc_last _ _ ?_; simp only [World.size_alloc]; done) | (rw [Below.heap_alloc]; rotate_left; (simp only [World.size_alloc]; omega)))
  have hb0 : Below w.heap.size w W0 := by rw [hW0]; exact ((((Below.refl _ w).alloc (Nat.le_refl _) _).alloc (by simp) _).alloc (by simp; omega) _)
  have HB0 := Lib.hid hb0
  have HG0 := Lib.hid g0
  have HG1 := Lib.hid g1
  have HG2 := Lib.hid g2
  obtain ⟨c00, c01, f0⟩ := wide_cells g0
  obtain ⟨c10, c11, f1⟩ := wide_cells g1
  have HW0 := Lib.hid hW0
  clear hb0 g0 g1 g2 hW0
  have HVAL : Hid (∀ W : World, Calls Try.prog 52 #[.agg #[.bool na, .string sa]] W fun e w' => e = .returned (.bool (validB na sa)) ∧ Below W.heap.size W w') := Valid_wide na sa hsa
  have HPOS : Hid (∀ W : World, Calls Try.prog 96 #[.agg #[.bool nb, .string sb]] W fun e w' => e = .returned (.bool (posB nb sb)) ∧ Below W.heap.size W w') := positive_any nb sb hsb
  obtain ⟨okv, hov⟩ : ∃ ok, ok = validB na sa := ⟨_, rfl⟩
  obtain ⟨okp, hop⟩ : ∃ ok, ok = posB nb sb := ⟨_, rfl⟩
  rw [← hov] at HVAL
  rw [← hop] at HPOS
  have HOV := Lib.hid hov
  have HOP := Lib.hid hop
  clear hov hop
  go_enter Try.func82, Try.ntmps82
  go_upto_region 1 with (fail)
  rw [← HW0.out]
  go_wp2_with fail
  (with_reducible refine (HVAL.out _).mono ?_)
  rintro e w1 ⟨rfl, hb1⟩
  have k0 := (hb1.block _ (lt_of_heap HG0.out)).trans HG0.out
  have k1 := (hb1.block _ (lt_of_heap HG1.out)).trans HG1.out
  have k2 := (hb1.block _ (lt_of_heap HG2.out)).trans HG2.out
  have HBw1 := Lib.hid (HB0.out.trans (hb1.mono HB0.out.size))
  clear c00 c01 f0 c10 c11 f1 hb1
  cases okv with
  | false =>
    obtain ⟨c20, c21, f2⟩ := wide_cells k2
    have HK2 := Lib.hid k2
    clear k0 k1 k2
    have hres : Hid (balF na sa nb sb = (emptyW, 2)) := by show _ = _; unfold balF; rw [← HOV.out]; rfl
    go_wp2
    have m2 := wide_set HK2.out false ⟨#[]⟩
    have hb9 := below_set2 (p := w.heap.size + 1 + 1) HBw1.out (by omega) false ⟨#[]⟩
    obtain ⟨d20, d21, -⟩ := wide_cells m2
    clear m2
    generalize (w1.setCell ⟨w.heap.size + 1 + 1, 0, none⟩ (.bool false)).setCell ⟨w.heap.size + 1 + 1, 1, none⟩ (.string ⟨#[]⟩) = W9 at d20 d21 hb9 ⊢
    rw [HP.out]
    exact bodyPost_ret (v := .tuple #[emptyW, .int .i64 2]) (by simp [results, Try.results82, go_sem, d20, d21]; rfl) rfl ⟨by rw [hres.out], hb9⟩
  | true =>
    obtain ⟨c10, c11, f1⟩ := wide_cells k1
    have HK0 := Lib.hid k0
    have HK1 := Lib.hid k1
    have HK2 := Lib.hid k2
    clear k0 k1 k2
    go_wp2_with fail
    (with_reducible refine (HPOS.out _).mono ?_)
    rintro e w2 ⟨rfl, hb2⟩
    have k0 := (hb2.block _ (lt_of_heap HK0.out)).trans HK0.out
    have k1 := (hb2.block _ (lt_of_heap HK1.out)).trans HK1.out
    have k2 := (hb2.block _ (lt_of_heap HK2.out)).trans HK2.out
    have HBw2 := Lib.hid (HBw1.out.trans (hb2.mono HBw1.out.size))
    clear c10 c11 f1 hb2
    cases okp with
    | false =>
      obtain ⟨c20, c21, f2⟩ := wide_cells k2
      have HK22 := Lib.hid k2
      clear k0 k1 k2
      have hres : Hid (balF na sa nb sb = (emptyW, 2)) := by show _ = _; unfold balF; rw [← HOV.out, ← HOP.out]; rfl
      go_wp2
      have m2 := wide_set HK22.out false ⟨#[]⟩
      have hb9 := below_set2 (p := w.heap.size + 1 + 1) HBw2.out (by omega) false ⟨#[]⟩
      obtain ⟨d20, d21, -⟩ := wide_cells m2
      clear m2
      generalize (w2.setCell ⟨w.heap.size + 1 + 1, 0, none⟩ (.bool false)).setCell ⟨w.heap.size + 1 + 1, 1, none⟩ (.string ⟨#[]⟩) = W9 at d20 d21 hb9 ⊢
      rw [HP.out]
      exact bodyPost_ret (v := .tuple #[emptyW, .int .i64 2]) (by simp [results, Try.results82, go_sem, d20, d21]; rfl) rfl ⟨by rw [hres.out], hb9⟩
    | true =>
      have hp := HOP.out
      unfold posB at hp
      have hv1 : validB nb sb = true := by cases h : validB nb sb <;> rw [h] at hp <;> first | rfl | cases hp
      rw [hv1, Bool.true_and] at hp
      have hp2 : sb.size ≠ 0 ∧ nb = false := by
        have h := hp.symm
        rw [Bool.and_eq_true, decide_eq_true_eq] at h
        exact ⟨h.1, by cases nb with
          | false => rfl
          | true => cases h.2⟩
      obtain ⟨h0, hnb⟩ := hp2
      subst hnb
      obtain ⟨l1, -, -, s256a⟩ := valid_spec na sa HOV.out.symm
      obtain ⟨l2, hmg, -, s256b⟩ := valid_spec false sb hv1
      have hofA : Hid (∀ W : World, Calls Try.prog 78 #[.agg #[.bool na, .string sa]] W (NumRet W (numB sa))) := of_wide na sa (by omega)
      have hofB : Hid (∀ W : World, Calls Try.prog 78 #[.agg #[.bool false, .string sb]] W (NumRet W (numB sb))) := of_wide false sb (by omega)
      have hD2 := hD HOV.out.symm hv1 h0
      have hB0 : numB sb ≠ 0 := by
        intro h
        rw [h] at hmg
        exact h0 (by rw [← hmg]; rfl)
      have hwa := wd_len65 l1
      have hwb := wd_len65 l2
      have hres : balF na sa false sb = (outZ (balZ (zV na sa) (zV false sb)), errZ (balZ (zV na sa) (zV false sb))) := by
        unfold balF; rw [← HOV.out, ← HOP.out]; rfl
      unfold zV at hres
      obtain ⟨A, hA⟩ : ∃ A, A = numB sa := ⟨_, rfl⟩
      obtain ⟨C, hC⟩ : ∃ C, C = numB sb := ⟨_, rfl⟩
      rw [← hA, ← hC] at hres
      rw [← hA] at hofA hwa
      rw [← hC] at hofB hB0 hwb
      rw [← hA, ← hC] at hD2
      obtain ⟨-, fz2⟩ := floor_z A na C false hB0
      have HFL : Hid (∀ (va vb : Value) (W : World), World.numR W va A → World.numR W vb C → Calls Try.prog 97 #[va, .bool na, vb, .bool false] W (FloorRet W A na C false)) := fun va vb W h1 h2 => floor_any A C na false hB0 hD2 (by omega) (by omega) va vb W h1 h2
      obtain ⟨r, hr⟩ : ∃ r, r = floorR A na C := ⟨_, rfl⟩
      have hrC : r < C := by
        rw [hr]
        have h3 := Nat.mod_lt A (show 0 < C by omega)
        unfold floorR
        split <;> omega
      have hwr : (wd r).length ≤ 64 := wd_len_le (Nat.le_of_lt hrC) hwb
      have hbz : balZ (zOf na A) (zOf false C) = if C < r * 2 ^ 1 then -((C - r : Nat) : Int) else (r : Int) := by
        unfold balZ
        rw [← fz2, ← hr, zOf_false]
        by_cases h : C < r * 2 ^ 1
        · rw [if_pos h, if_pos (by omega)]; omega
        · rw [if_neg h, if_neg (by omega)]
      rw [hbz] at hres
      have HRES := Lib.hid hres
      have HRR := Lib.hid hr
      obtain ⟨c00, c01, f0⟩ := wide_cells k0
      obtain ⟨c10, c11, f1⟩ := wide_cells k1
      have hl0 := lt_of_heap k0
      have hl1 := lt_of_heap k1
      have HK02 := Lib.hid k0
      have HK22 := Lib.hid k2
      have HWR := Lib.hid hwr
      have HWB := Lib.hid hwb
      clear hres hD2 hB0 hwa hwb hwr fz2 hA hC hmg l1 l2 h0 hr hbz k0 k1 k2 hv1 hp
      go_wp2_with fail
      (with_reducible refine (hofB.out _).mono ?_)
      rintro e w3 hy
      obtain ⟨vy, rfl, hoy, hby⟩ := hy
      have HY : Hid (World.numR w3 vy C) := hoy.reads
      obtain ⟨ay, cy, rfl⟩ := numR_shape HY.out
      have d0 := (hby.cell (p := ⟨w.heap.size, 0, none⟩) hl0).trans c00
      have d1 := (hby.cell (p := ⟨w.heap.size, 1, none⟩) hl0).trans c01
      have hm0 := Nat.lt_of_lt_of_le hl0 hby.size
      have HK23 := Lib.hid ((hby.block _ (lt_of_heap HK22.out)).trans HK22.out)
      have HBw3 := Lib.hid (HBw2.out.trans (hby.mono HBw2.out.size))
      clear hoy hby c00 c01 f0 c10 c11 f1 hl0 hl1
      go_wp2_with fail
      go_region_held3 (fun w' => (w'.cell? ⟨w.heap.size, 0, none⟩ = some (.bool na) ∧ w'.cell? ⟨w.heap.size, 1, none⟩ = some (.string sa)))
        (first | exact ⟨d0, d1⟩ | (refine ⟨?_, ?_⟩ <;> assumption))
        (first
          | (go_simp; go_at_call 78; (with_reducible refine (hofA.out _).mono ?_); rintro e w5 ⟨v5, rfl, ho5, hb5⟩; have H5 : Hid (NumRet _ A (.returned v5) w5) := ⟨v5, rfl, ho5, hb5⟩; have a0 := (hb5.cell (p := ⟨w.heap.size, 0, none⟩) hm0).trans d0; have a1 := (hb5.cell (p := ⟨w.heap.size, 1, none⟩) hm0).trans d1; have hn0 := Nat.lt_of_lt_of_le hm0 hb5.size; clear ho5 hb5)
          | (go_simp; go_at_call 97; (with_reducible refine (HFL.out _ _ _ H5.out.numR (numR_below HY.out H5.out.belD)).mono ?_); rintro e w7 ⟨v7, u7, rfl, hq7, hr7, hb7⟩; have HQ7 : Hid (World.numR w7 v7 (floorN A na C)) := hq7; have HR7 : Hid (World.numR w7 u7 (floorR A na C)) := hr7; have HB7 := Lib.hid hb7; have b0 := (hb7.cell (p := ⟨w.heap.size, 0, none⟩) hn0).trans a0; have b1 := (hb7.cell (p := ⟨w.heap.size, 1, none⟩) hn0).trans a1; clear hq7 hr7 hb7))
      have hb35 := H5.out.belD
      have hb37 : Below w3.heap.size w3 w7 := hb35.trans (HB7.out.mono hb35.size)
      have HY7 := Lib.hid (numR_below HY.out hb37)
      have HK27 := Lib.hid ((hb37.block _ (lt_of_heap HK23.out)).trans HK23.out)
      have HBw7 := Lib.hid (HBw3.out.trans (hb37.mono HBw3.out.size))
      rw [← HRR.out] at HR7
      obtain ⟨a7, c7, rfl⟩ := numR_shape HQ7.out
      obtain ⟨a8, c8, rfl⟩ := numR_shape HR7.out
      have hlr := left_num r 1 (by omega) _ w7 HR7.out (by have := HWR.out; omega) 1 rfl
      have HLR := Lib.hid hlr
      clear hb35 hb37 a0 a1 b0 b1 d0 d1 hm0 hn0 hlr
      go_wp2_with fail
      (with_reducible refine (HLR.out).mono ?_)
      rintro e w8 hr8
      obtain ⟨v8, rfl, ho8, hb8⟩ := hr8
      have HN8 : Hid (World.numR w8 v8 (r * 2 ^ 1)) := ho8.reads
      have HY8 := Lib.hid (numR_below HY7.out hb8)
      have HR8 := Lib.hid (numR_below HR7.out hb8)
      have HK28 := Lib.hid ((hb8.block _ (lt_of_heap HK27.out)).trans HK27.out)
      have HBw8 := Lib.hid (HBw7.out.trans (hb8.mono HBw7.out.size))
      have hcmp := compare_num (r * 2 ^ 1) C _ _ w8 HN8.out HY8.out (by have := wd_len_double HWR.out; omega) (by have := HWB.out; omega)
      obtain ⟨T, hT⟩ : ∃ T, T = cmpN (r * 2 ^ 1) C := ⟨_, rfl⟩
      rw [← hT] at hcmp
      have HCMP := Lib.hid hcmp
      clear ho8 hb8 hcmp
      by_cases hlt : C < r * 2 ^ 1
      · have ht1 : T = 1 := by rw [hT, cmpN, if_neg (by omega), if_pos hlt]
        have hres : Hid (balF na sa false sb = (outZ (zOf true (C - r)), errZ (zOf true (C - r)))) := by show _ = _; rw [HRES.out, if_pos hlt]; rfl
        subst ht1
        clear hT hlt
        go_wp2_with fail
        (with_reducible refine (HCMP.out).mono ?_)
        rintro e w9 ⟨rfl, n9, rfl⟩
        have hmin := minus_any C r (Nat.le_of_lt hrC) _ _ (w8.drewN n9) (reads_drewN HY8.out n9) (reads_drewN HR8.out n9) (by have := HWB.out; omega) (by have := HWR.out; omega)
        have HMIN := Lib.hid hmin
        clear hmin
        go_wp2_with fail
        (with_reducible refine (HMIN.out).mono ?_)
        rintro e w10 hr10
        obtain ⟨v10, rfl, ho10, hb10⟩ := hr10
        have HN10 : Hid (World.numR w10 v10 (C - r)) := ho10.reads
        have HK210 := Lib.hid ((hb10.block _ (show w.heap.size + 1 + 1 < (w8.drewN n9).heap.size from lt_of_heap HK28.out)).trans HK28.out)
        have HBw10 : Hid (Below w.heap.size w w10) := (below_drewN HBw8.out n9).trans (hb10.mono (show w.heap.size ≤ (w8.drewN n9).heap.size from HBw8.out.size))
        clear ho10 hb10
        obtain ⟨fb, ft, hf1, hf2⟩ := form_numZ (C - r) true v10 w10 HN10.out (by have := wd_len_le (show C - r ≤ C by omega) HWB.out; omega)
        have HF := Lib.hid hf2
        rw [hf1] at hres
        obtain ⟨E, hE⟩ : ∃ E, E = errZ (zOf true (C - r)) := ⟨_, rfl⟩
        rw [← hE] at HF hres
        clear hf1 hf2 hE
        go_wp2_with fail
        (with_reducible refine (HF.out).mono ?_)
        rintro e w11 ⟨rfl, hb11⟩
        have k2 := (hb11.block _ (lt_of_heap HK210.out)).trans HK210.out
        have HBw11 := Lib.hid (HBw10.out.trans (hb11.mono HBw10.out.size))
        obtain ⟨c20, c21, f2⟩ := wide_cells k2
        have HK211 := Lib.hid k2
        clear k2 hb11
        go_wp2
        have m2 := wide_set HK211.out fb ft
        have hb9 := below_set2 (p := w.heap.size + 1 + 1) HBw11.out (by omega) fb ft
        obtain ⟨d20, d21, -⟩ := wide_cells m2
        clear m2
        generalize (w11.setCell ⟨w.heap.size + 1 + 1, 0, none⟩ (.bool fb)).setCell ⟨w.heap.size + 1 + 1, 1, none⟩ (.string ft) = W9 at d20 d21 hb9 ⊢
        rw [HP.out]
        exact bodyPost_ret (v := .tuple #[.agg #[.bool fb, .string ft], .int .i64 E]) (by simp [results, Try.results82, go_sem, d20, d21]) rfl ⟨by rw [hres.out], hb9⟩
      · have ht1 : T = 0 ∨ T = -1 := by
          rw [hT, cmpN]
          by_cases h : r * 2 ^ 1 < C
          · rw [if_pos h]; exact Or.inr rfl
          · rw [if_neg h, if_neg hlt]; exact Or.inl rfl
        have ht2 : ¬ 0 < T := by omega
        have hres : Hid (balF na sa false sb = (outZ (zOf false r), errZ (zOf false r))) := by show _ = _; rw [HRES.out, if_neg hlt]; rfl
        clear hT hlt ht1
        go_wp2_with fail
        (with_reducible refine (HCMP.out).mono ?_)
        rintro e w9 ⟨rfl, n9, rfl⟩
        obtain ⟨fb, ft, hf1, hf2⟩ := form_numZ r false _ (w8.drewN n9) (numR_drewN HR8.out n9) (by have := HWR.out; omega)
        have HF := Lib.hid hf2
        rw [hf1] at hres
        obtain ⟨E, hE⟩ : ∃ E, E = errZ (zOf false r) := ⟨_, rfl⟩
        rw [← hE] at HF hres
        have HK29 : Hid ((w8.drewN n9).heap[w.heap.size + 1 + 1]? = some (.cells #[.bool false, .string ⟨#[]⟩] 38)) := HK28.out
        have HBw9 : Hid (Below w.heap.size w (w8.drewN n9)) := below_drewN HBw8.out n9
        clear hf1 hf2 hE
        go_wp2_with fail
        (with_reducible refine (HF.out).mono ?_)
        rintro e w11 ⟨rfl, hb11⟩
        have k2 := (hb11.block _ (lt_of_heap HK29.out)).trans HK29.out
        have HBw11 := Lib.hid (HBw9.out.trans (hb11.mono HBw9.out.size))
        obtain ⟨c20, c21, f2⟩ := wide_cells k2
        have HK211 := Lib.hid k2
        clear k2 hb11
        go_wp2
        have m2 := wide_set HK211.out fb ft
        have hb9 := below_set2 (p := w.heap.size + 1 + 1) HBw11.out (by omega) fb ft
        obtain ⟨d20, d21, -⟩ := wide_cells m2
        clear m2
        generalize (w11.setCell ⟨w.heap.size + 1 + 1, 0, none⟩ (.bool fb)).setCell ⟨w.heap.size + 1 + 1, 1, none⟩ (.string ft) = W9 at d20 d21 hb9 ⊢
        rw [HP.out]
        exact bodyPost_ret (v := .tuple #[.agg #[.bool fb, .string ft], .int .i64 E]) (by simp [results, Try.results82, go_sem, d20, d21]) rfl ⟨by rw [hres.out], hb9⟩
end Go.Proofs.Ytnjblppapmflhaa

/- Walks: a form shifted to the left. -/

/- Walks: the calls that each law makes at its end. -/
namespace Go.Proofs.Ytnjblppapmflhaa
set_option linter.all false
open Go.RowKit Go.Shelf Go.WideNum
theorem below_viaD {a b c : World} (h : Below a.heap.size a b) (k : Below b.drew.heap.size b.drew c) : Below a.heap.size a c := (h.drew).trans (k.mono h.size)
end Go.Proofs.Ytnjblppapmflhaa

/- Walks: two forms compared. -/
namespace Go.Proofs.Ytnjblppapmflhaa
set_option linter.all false
open Go.RowKit Go.Shelf Go.WideNum
def cmpZ (a b : Int) : Int := if a < b then -1 else if b < a then 1 else 0
end Go.Proofs.Ytnjblppapmflhaa

/- Plain: a text leads back to the integer, and the integer to the text. -/
namespace Go.Proofs.Ytnjblppapmflhaa
set_option linter.all false
open Go.WideNum
theorem valid_magB (neg : Bool) (n : Nat) (h : n < lim) (hz : neg = true → n ≠ 0) : validB neg (magB n) = true ∧ numB (magB n) = n := by
  have hnum : numB (magB n) = n := by unfold numB magB; exact valM_magL n
  refine ⟨?_, hnum⟩
  unfold validB
  have hl := magL_length n
  by_cases h0 : n = 0
  · subst h0
    cases neg with
    | false => rfl
    | true => exact absurd rfl (hz rfl)
  · have hsz : (magB n).size = (words 256 n).length := by rw [← hl]; rfl
    have hw0 : ¬ (words 256 n).length = 0 := fun h => h0 ((words_len0 (B := 256) (by omega) n).1 h)
    rw [dif_neg (by rw [hsz]; exact hw0)]
    have h256 := (lim_iff n _ rfl).1 h
    rw [Bool.and_eq_true]
    refine ⟨decide_eq_true ?_, decide_eq_true (by rw [hsz]; exact h256)⟩
    intro hz0
    have htr := words_trimmed (B := 256) (by omega) n n (Nat.le_refl _)
    have hp : 0 < (magL n).length := by rw [hl]; omega
    have e1 : (magL n)[0] = 0 := hz0
    have e2 : (magL n).head? = some 0 := by rw [List.head?_eq_getElem?, List.getElem?_eq_getElem hp, e1]
    unfold magL at e2
    rw [List.head?_reverse, List.getLast?_map] at e2
    cases hg : (words 256 n).getLast? with
    | none => rw [hg] at e2; cases e2
    | some x =>
      rw [hg] at e2
      injection e2 with e2
      have hx := htr x hg
      have hx2 := words_lt (B := 256) (by omega) n n x (List.mem_of_getLast? hg)
      have : (UInt8.ofNat x).toNat = 0 := by
        have e3 : UInt8.ofNat x = 0 := e2
        rw [e3]; rfl
      rw [UInt8.toNat_ofNat'] at this
      have e4 : x % 256 = 0 := this
      omega
end Go.Proofs.Ytnjblppapmflhaa

/- Walks: the sum of two forms. -/
namespace Go.Proofs.Ytnjblppapmflhaa
set_option linter.all false
open Go.RowKit Go.Shelf Go.WideNum
/-- What a function of two integers answers. -/
def opF (f : Int → Int → Int) (na : Bool) (sa : ByteArray) (nb : Bool) (sb : ByteArray) : Value × Int :=
  if validB na sa && validB nb sb then (outZ (f (zV na sa) (zV nb sb)), errZ (f (zV na sa) (zV nb sb))) else (emptyW, 2)
theorem mul_z (A : Nat) (an : Bool) (C : Nat) (bn : Bool) : zOf (an != bn) (A * C) = zOf an A * zOf bn C := by
  unfold zOf
  cases an <;> cases bn <;> simp [Int.natCast_mul, Int.mul_neg, Int.neg_mul]
theorem bne_eq (a b : Bool) : (!(a == b)) = (a != b) := rfl
theorem sumN_le (A : Nat) (an : Bool) (C : Nat) (bn : Bool) : sumN A an C bn ≤ A + C := by
  unfold sumN
  split
  · exact Nat.le_refl _
  · split <;> omega
theorem wd_len_sum {A C n : Nat} (ha : (wd A).length ≤ 64) (hc : (wd C).length ≤ 64) (h : n ≤ A + C) : (wd n).length ≤ 65 := by
  have h1 := wd_vlt A
  have h2 := wd_vlt C
  have hp : (4294967296 : Nat) ^ (wd A).length ≤ 4294967296 ^ 64 := Nat.pow_le_pow_right (by omega) ha
  have hp2 : (4294967296 : Nat) ^ (wd C).length ≤ 4294967296 ^ 64 := Nat.pow_le_pow_right (by omega) hc
  exact words_length (by omega) n 65 (by rw [show (65 : Nat) = 64 + 1 by rfl, Nat.pow_succ]; omega)
theorem wd_len_prod {A C : Nat} (ha : (wd A).length ≤ 64) (hc : (wd C).length ≤ 64) : (wd (A * C)).length ≤ 128 := by
  have h1 := wd_vlt A
  have h2 := wd_vlt C
  have hp : (4294967296 : Nat) ^ (wd A).length ≤ 4294967296 ^ 64 := Nat.pow_le_pow_right (by omega) ha
  have hp2 : (4294967296 : Nat) ^ (wd C).length ≤ 4294967296 ^ 64 := Nat.pow_le_pow_right (by omega) hc
  exact words_length (by omega) (A * C) 128 (by
    rw [show (128 : Nat) = 64 + 64 by rfl, Nat.pow_add]
    exact Nat.mul_lt_mul'' (Nat.lt_of_lt_of_le h1 hp) (Nat.lt_of_lt_of_le h2 hp2))
theorem sum_num (A C : Nat) (an bn : Bool) (va vb : Value) (w : World) (hA : World.numR w va A) (hC : World.numR w vb C) (hla : (wd A).length ≤ 2000) (hlc : (wd C).length ≤ 2000) :
    Calls Try.prog 95 #[va, .bool an, vb, .bool bn] w fun e w' => (∃ v, e = .returned (.tuple #[v, .bool (sumS A an C bn)]) ∧ World.numR w' v (sumN A an C bn)) ∧ Below w.heap.size w w' :=
  (sum_any A C an bn va vb w hA hC hla hlc).mono fun e w' ⟨v, he, hr⟩ => ⟨⟨v, he, hr.numR⟩, hr.bel⟩
theorem times_num (A C : Nat) (va vb : Value) (w : World) (hA : World.numR w va A) (hC : World.numR w vb C) (hl : (wd A).length + (wd C).length ≤ 134) :
    Calls Try.prog 77 #[va, vb] w fun e w' => (∃ v, e = .returned v ∧ World.numR w' v (A * C)) ∧ Below w.heap.size w w' :=
  (times_any A C va vb w hA hC hl).mono fun e w' hr => by
    obtain ⟨v, rfl, h1, h2⟩ := hr
    exact ⟨⟨v, rfl, h1.reads⟩, h2⟩
set_option maxRecDepth 100000 in
set_option maxHeartbeats 8000000 in
theorem Add_any (na : Bool) (sa : ByteArray) (nb : Bool) (sb : ByteArray) (hsa : sa.size ≤ maxLen) (hsb : sb.size ≤ maxLen) (w : World) :
    Calls Try.prog 81 #[.agg #[.bool na, .string sa], .agg #[.bool nb, .string sb]] w fun e w' => e = .returned (.tuple #[(opF (fun a b => a + b) na sa nb sb).1, .int .i64 (opF (fun a b => a + b) na sa nb sb).2]) ∧ Below w.heap.size w w' := by
  obtain ⟨HPOST, hpost⟩ : ∃ X : Ending → World → Prop, X = fun e w' => e = .returned (.tuple #[(opF (fun a b => a + b) na sa nb sb).1, .int .i64 (opF (fun a b => a + b) na sa nb sb).2]) ∧ Below w.heap.size w w' := ⟨_, rfl⟩
  rw [← hpost]
  have HP := Lib.hid hpost
  clear hpost
  obtain ⟨W0, hW0⟩ : ∃ W0, W0 = ((w.alloc (.cells #[.bool na, .string sa] 38)).alloc (.cells #[.bool nb, .string sb] 38)).alloc (.cells #[.bool false, .string ⟨#[]⟩] 38) := ⟨_, rfl⟩
  have g0 : W0.heap[w.heap.size]? = some (.cells #[.bool na, .string sa] 38) := by rw [hW0]; repeat (first | (refine alloc_last _ _ ?_; simp only [World.size_alloc]; done) | (rw [Below.heap_alloc]; rotate_left; (simp only [World.size_alloc]; omega)))
  have g1 : W0.heap[w.heap.size + 1]? = some (.cells #[.bool nb, .string sb] 38) := by rw [hW0]; repeat (first | (refine alloc_last _ _ ?_; simp only [World.size_alloc]; done) | (rw [Below.heap_alloc]; rotate_left; (simp only [World.size_alloc]; omega)))
  have g2 : W0.heap[w.heap.size + 1 + 1]? = some (.cells #[.bool false, .string ⟨#[]⟩] 38) := by rw [hW0]; repeat (first | (refine alloc_last _ _ ?_; simp only [World.size_alloc]; done) | (rw [Below.heap_alloc]; rotate_left; (simp only [World.size_alloc]; omega)))
  have hb0 : Below w.heap.size w W0 := by rw [hW0]; exact ((((Below.refl _ w).alloc (Nat.le_refl _) _).alloc (by simp) _).alloc (by simp; omega) _)
  have HB0 := Lib.hid hb0
  have HG0 := Lib.hid g0
  have HG1 := Lib.hid g1
  have HG2 := Lib.hid g2
  obtain ⟨c00, c01, f0⟩ := wide_cells g0
  obtain ⟨c10, c11, f1⟩ := wide_cells g1
  have HW0 := Lib.hid hW0
  clear hb0 g0 g1 g2 hW0
  go_enter Try.func81, Try.ntmps81
  go_upto_region 1 with (fail)
  rw [← HW0.out]
  go_wp2_with fail
  obtain ⟨ok, hok⟩ : ∃ ok, ok = (validB na sa && validB nb sb) := ⟨_, rfl⟩
  have hval := valid2_any na sa nb sb hsa hsb (W0.alloc (.cells #[.bool na, .string sa, .bool nb, .string sb] 38)) W0.heap.size (heap_alloc_new W0 _)
  rw [← hok] at hval
  have HOK := Lib.hid hok
  clear hok
  (with_reducible refine hval.mono ?_)
  clear hval
  rintro e w1 ⟨rfl, hb1⟩
  have hb01 : Below W0.heap.size W0 w1 := ((Below.refl _ W0).alloc (Nat.le_refl _) _).trans (hb1.mono (by simp))
  have k0 := (hb01.block _ (lt_of_heap HG0.out)).trans HG0.out
  have k1 := (hb01.block _ (lt_of_heap HG1.out)).trans HG1.out
  have k2 := (hb01.block _ (lt_of_heap HG2.out)).trans HG2.out
  have HK2 := Lib.hid k2
  have HBw1 := Lib.hid (HB0.out.trans (hb01.mono HB0.out.size))
  clear c00 c01 f0 c10 c11 f1 hb1
  obtain ⟨c00, c01, f0⟩ := wide_cells k0
  obtain ⟨c10, c11, f1⟩ := wide_cells k1
  obtain ⟨e20, e21, f2⟩ := wide_cells k2
  have hl0 := lt_of_heap k0
  have hl1 := lt_of_heap k1
  have hl2 := lt_of_heap k2
  clear k0 k1 k2 hb01
  cases ok with
  | false =>
    have hres : Hid (opF (fun a b => a + b) na sa nb sb = (emptyW, 2)) := by show _ = _; unfold opF; rw [← HOK.out]; rfl
    go_wp2
    have m2 := wide_set HK2.out false ⟨#[]⟩
    have hb9 := below_set2 (p := w.heap.size + 1 + 1) HBw1.out (by omega) false ⟨#[]⟩
    obtain ⟨d20, d21, -⟩ := wide_cells m2
    clear m2 e20 e21 f2
    generalize (w1.setCell ⟨w.heap.size + 1 + 1, 0, none⟩ (.bool false)).setCell ⟨w.heap.size + 1 + 1, 1, none⟩ (.string ⟨#[]⟩) = W9 at d20 d21 hb9 ⊢
    rw [HP.out]
    exact bodyPost_ret (v := .tuple #[emptyW, .int .i64 2]) (by simp [results, Try.results81, go_sem, d20, d21]; rfl) rfl ⟨by rw [hres.out], hb9⟩
  | true =>
    have hv : validB na sa = true ∧ validB nb sb = true := by
      have := HOK.out
      cases h1 : validB na sa <;> cases h2 : validB nb sb <;> rw [h1, h2] at this <;> first | exact ⟨rfl, rfl⟩ | cases this
    obtain ⟨l1, -, -, s256a⟩ := valid_spec na sa hv.1
    obtain ⟨l2, -, -, s256b⟩ := valid_spec nb sb hv.2
    have hofA : Hid (∀ W : World, Calls Try.prog 78 #[.agg #[.bool na, .string sa]] W (NumRet W (numB sa))) := of_wide na sa (by omega)
    have hofB : Hid (∀ W : World, Calls Try.prog 78 #[.agg #[.bool nb, .string sb]] W (NumRet W (numB sb))) := of_wide nb sb (by omega)
    have hwa := wd_len65 l1
    have hwb := wd_len65 l2
    have hres : opF (fun a b => a + b) na sa nb sb = (outZ ((fun a b => a + b) (zV na sa) (zV nb sb)), errZ ((fun a b => a + b) (zV na sa) (zV nb sb))) := by unfold opF; rw [← HOK.out]; rfl
    unfold zV at hres
    obtain ⟨A, hA⟩ : ∃ A, A = numB sa := ⟨_, rfl⟩
    obtain ⟨C, hC⟩ : ∃ C, C = numB sb := ⟨_, rfl⟩
    rw [← hA, ← hC] at hres
    rw [← hA] at hofA hwa
    rw [← hC] at hofB hwb
    have HSUM : Hid (∀ (va vb : Value) (W : World) (b' : Bool), World.numR W va A → World.numR W vb C → b' = nb → Calls Try.prog 95 #[va, .bool na, vb, .bool b'] W fun e w' => (∃ v, e = .returned (.tuple #[v, .bool (sumS A na C (nb))]) ∧ World.numR w' v (sumN A na C (nb))) ∧ Below W.heap.size W w') := fun va vb W b' h1 h2 h3 => by rw [h3]; exact sum_num A C na (nb) va vb W h1 h2 (by omega) (by omega)
    obtain ⟨S, hS⟩ : ∃ S, S = sumS A na C (nb) := ⟨_, rfl⟩
    obtain ⟨M, hMM⟩ : ∃ M, M = sumN A na C (nb) := ⟨_, rfl⟩
    have hML : (wd M).length ≤ 65 := wd_len_sum hwa hwb (by rw [hMM]; exact sumN_le _ _ _ _)
    rw [show (fun a b => a + b) (zOf na A) (zOf nb C) = zOf S M by rw [hS, hMM]; exact (sum_z A na C nb).symm] at hres
    rw [← hS, ← hMM] at HSUM
    clear hS
    have hff : ∃ fb ft, outZ (zOf S M) = .agg #[.bool fb, .string ft] ∧ ∀ (v : Value) (W : World) (S' : Bool), World.numR W v M → S' = S → Calls Try.prog 67 #[v, .bool S'] W fun e w' => e = .returned (.tuple #[.agg #[.bool fb, .string ft], .int .i64 (errZ (zOf S M))]) ∧ Below W.heap.size W w' := by
      have hwide : ∃ b t, outB S M = .agg #[.bool b, .string t] := by unfold outB emptyW wideV; split <;> exact ⟨_, _, rfl⟩
      obtain ⟨b, t, hbt⟩ := hwide
      refine ⟨b, t, by rw [← outB_z]; exact hbt, fun v W S' h hS => ?_⟩
      subst hS
      obtain ⟨b', t', h1, h2⟩ := form_numZ M S' v W h (by omega)
      rw [← outB_z, hbt] at h1
      rwa [← h1] at h2
    obtain ⟨fb, ft, hf1, hf2⟩ := hff
    obtain ⟨E, hE⟩ : ∃ E, E = errZ (zOf S M) := ⟨_, rfl⟩
    rw [hf1, ← hE] at hres
    rw [← hE] at hf2
    have HFF := Lib.hid hf2
    have HRES := Lib.hid hres
    skip
    clear hres hf1 hf2 hE hA hC l1 l2 hwa hwb hv hML hMM
    go_wp2_with fail
    go_region_held3 (fun w' => (w'.cell? ⟨w.heap.size, 0, none⟩ = some (.bool na) ∧ w'.cell? ⟨w.heap.size, 1, none⟩ = some (.string sa) ∧ w'.cell? ⟨w.heap.size + 1, 0, none⟩ = some (.bool nb) ∧ w'.cell? ⟨w.heap.size + 1, 1, none⟩ = some (.string sb)))
      (first | exact ⟨c00, c01, c10, c11⟩ | (refine ⟨?_, ?_, ?_, ?_⟩ <;> assumption) | exact ⟨(World.cell?_of_block (a := ⟨w.heap.size, 0, none⟩) (wide_other (p := w.heap.size) (q := w.heap.size + 1 + 1) (by omega) fb ft)).trans q0, (World.cell?_of_block (a := ⟨w.heap.size, 1, none⟩) (wide_other (p := w.heap.size) (q := w.heap.size + 1 + 1) (by omega) fb ft)).trans q1, (World.cell?_of_block (a := ⟨w.heap.size + 1, 0, none⟩) (wide_other (p := w.heap.size + 1) (q := w.heap.size + 1 + 1) (by omega) fb ft)).trans q2, (World.cell?_of_block (a := ⟨w.heap.size + 1, 1, none⟩) (wide_other (p := w.heap.size + 1) (q := w.heap.size + 1 + 1) (by omega) fb ft)).trans q3⟩)
      (first
        | (go_simp; go_at_call 78; (with_reducible refine (hofA.out _).mono ?_); rintro e w5 ⟨v5, rfl, ho5, hb5⟩; have H5 : Hid (NumRet _ A (.returned v5) w5) := ⟨v5, rfl, ho5, hb5⟩; have a0 := (hb5.cell (p := ⟨w.heap.size, 0, none⟩) hl0).trans c00; have a1 := (hb5.cell (p := ⟨w.heap.size, 1, none⟩) hl0).trans c01; have a2 := (hb5.cell (p := ⟨w.heap.size + 1, 0, none⟩) hl1).trans c10; have a3 := (hb5.cell (p := ⟨w.heap.size + 1, 1, none⟩) hl1).trans c11; have ha0 := Nat.lt_of_lt_of_le hl0 hb5.size; have ha1 := Nat.lt_of_lt_of_le hl1 hb5.size;  clear ho5 hb5)
        | (go_simp; go_at_call 78; (with_reducible refine (hofB.out _).mono ?_); rintro e w6 ⟨v6, rfl, ho6, hb6⟩; have H6 : Hid (NumRet _ C (.returned v6) w6) := ⟨v6, rfl, ho6, hb6⟩; have b0 := (hb6.cell (p := ⟨w.heap.size, 0, none⟩) ha0).trans a0; have b1 := (hb6.cell (p := ⟨w.heap.size, 1, none⟩) ha0).trans a1; have b2 := (hb6.cell (p := ⟨w.heap.size + 1, 0, none⟩) ha1).trans a2; have b3 := (hb6.cell (p := ⟨w.heap.size + 1, 1, none⟩) ha1).trans a3; have hb_0 := Nat.lt_of_lt_of_le ha0 hb6.size; have hb_1 := Nat.lt_of_lt_of_le ha1 hb6.size;  clear ho6 hb6)
        | (go_simp; go_at_call 95; (with_reducible refine (HSUM.out _ _ _ _ (numR_below H5.out.numR H6.out.bel) H6.out.numR rfl).mono ?_); rintro e w7 ⟨⟨v7, rfl, h7⟩, hb7⟩; have H7 : Hid (World.numR w7 v7 M) := h7; have HB7 := Lib.hid hb7; have d0 := (hb7.cell (p := ⟨w.heap.size, 0, none⟩) hb_0).trans b0; have d1 := (hb7.cell (p := ⟨w.heap.size, 1, none⟩) hb_0).trans b1; have d2 := (hb7.cell (p := ⟨w.heap.size + 1, 0, none⟩) hb_1).trans b2; have d3 := (hb7.cell (p := ⟨w.heap.size + 1, 1, none⟩) hb_1).trans b3; have hd_0 := Nat.lt_of_lt_of_le hb_0 hb7.size; have hd_1 := Nat.lt_of_lt_of_le hb_1 hb7.size;  clear h7 hb7)
        | (go_simp; go_at_call 67; (with_reducible refine (HFF.out _ _ _ H7.out rfl).mono ?_); rintro e w8 ⟨rfl, hb8⟩; have q0 := (hb8.cell (p := ⟨w.heap.size, 0, none⟩) hd_0).trans d0; have q1 := (hb8.cell (p := ⟨w.heap.size, 1, none⟩) hd_0).trans d1; have q2 := (hb8.cell (p := ⟨w.heap.size + 1, 0, none⟩) hd_1).trans d2; have q3 := (hb8.cell (p := ⟨w.heap.size + 1, 1, none⟩) hd_1).trans d3; have hq_0 := Nat.lt_of_lt_of_le hd_0 hb8.size; have hq_1 := Nat.lt_of_lt_of_le hd_1 hb8.size;  have HB8 := Lib.hid (H5.out.belD.trans (((H6.out.bel.trans (HB7.out.mono H6.out.bel.size)).trans (hb8.mono (Nat.le_trans H6.out.bel.size HB7.out.size))).mono H5.out.belD.size)); have K28 := (HB8.out.block _ hl2).trans HK2.out; have HK28 := Lib.hid K28; obtain ⟨e28, e29, f28⟩ := wide_cells K28; clear hb8 K28))
    all_goals
      go_wp2
      have m2 := wide_set HK28.out fb ft
      have hb9 := below_set2 (p := w.heap.size + 1 + 1) (HBw1.out.trans (HB8.out.mono HBw1.out.size)) (by omega) fb ft
      obtain ⟨d20, d21, -⟩ := wide_cells m2
      clear m2
      generalize (w8.setCell ⟨w.heap.size + 1 + 1, 0, none⟩ (.bool fb)).setCell ⟨w.heap.size + 1 + 1, 1, none⟩ (.string ft) = W9 at d20 d21 hb9 ⊢
      rw [HP.out]
      exact bodyPost_ret (v := .tuple #[.agg #[.bool fb, .string ft], .int .i64 E]) (by simp [results, Try.results81, go_sem, d20, d21]) rfl ⟨by rw [HRES.out], hb9⟩
end Go.Proofs.Ytnjblppapmflhaa
