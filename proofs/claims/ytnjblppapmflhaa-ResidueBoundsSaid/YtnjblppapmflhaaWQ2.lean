/- Wide integers: helpers and walks, in one text (WD1 WM8 WD2 HeldD WM9 WD3 WD4). -/
import Derived.Test.YtnjblppapmflhaaWQ1
import Derived.Test.YtnjblppapmflhaaHeld
/- Walks: the form of an integer. -/
namespace Go.Proofs.Ytnjblppapmflhaa
set_option linter.all false
open Go.RowKit Go.Shelf Go.WideNum
theorem two_new (x y : Nat) (w : World) : (w.alloc (.cells #[.int .u32 (x : Int), .int .u32 (y : Int)] 23)).reads (w.alloc (.cells #[.int .u32 (x : Int), .int .u32 (y : Int)] 23)).heap.size (.slice (some ⟨w.heap.size, 0, none⟩) 2 2) ([x, y].map u32V) := by
  have := reads_alloc_new w [u32V x, u32V y] 23 2 (by simp) (by unfold maxLen; omega)
  simpa [u32V] using this
theorem lim_big : 18446744073709551616 < lim := by
  unfold lim
  have h : (256 : Nat) ^ 9 ≤ 256 ^ 256 := Nat.pow_le_pow_right (by omega) (by omega)
  have h2 : (256 : Nat) ^ 9 = 4722366482869645213696 := by decide
  omega
theorem wide_set {W : World} {g : Nat} {u0 u1 : Value} (h : W.heap[g]? = some (.cells #[u0, u1] 38)) (neg : Bool) (s : ByteArray) :
    ((W.setCell ⟨g, 0, none⟩ (.bool neg)).setCell ⟨g, 1, none⟩ (.string s)).heap[g]? = some (.cells #[.bool neg, .string s] 38) := by
  simp [World.setCell, Array.getElem?_modify, h]
theorem wide_cells {W : World} {g : Nat} {neg : Bool} {s : ByteArray} (h : W.heap[g]? = some (.cells #[.bool neg, .string s] 38)) :
    W.cell? ⟨g, 0, none⟩ = some (.bool neg) ∧ W.cell? ⟨g, 1, none⟩ = some (.string s) ∧ ∀ o, W.frozen? ⟨g, o, none⟩ = false :=
  ⟨by rw [cell_of_row W _ _ _ _ (0, 0) h]; rfl, by rw [cell_of_row W _ _ _ _ (0, 0) h]; rfl, fun o => by simp [World.frozen?, h]⟩
set_option maxRecDepth 100000 in
set_option maxHeartbeats 4000000 in
theorem Of_any (n : Int) (h1 : -9223372036854775808 ≤ n) (h2 : n < 9223372036854775808) (w : World) :
    Calls Try.prog 37 #[.int .i64 n] w fun e w' => e = .returned (outZ n) ∧ Below w.heap.size w w' := by
  obtain ⟨m, hm⟩ : ∃ m, m = n.natAbs := ⟨_, rfl⟩
  obtain ⟨lo, hlo⟩ : ∃ lo, lo = m % 4294967296 := ⟨_, rfl⟩
  obtain ⟨hi, hhi⟩ : ∃ hi, hi = m / 4294967296 := ⟨_, rfl⟩
  have hv : valW 4294967296 [lo, hi] = m := by simp only [valW]; omega
  have hil : hi < 4294967296 := by omega
  have hlim : n.natAbs < lim := by have := lim_big; omega
  obtain ⟨nb, hnb⟩ : ∃ nb, nb = decide (n < 0) := ⟨_, rfl⟩
  have hz : zOf nb m = n := by
    rw [hnb, hm]; unfold zOf
    by_cases h : n < 0
    · rw [decide_eq_true h, if_pos rfl]; omega
    · rw [decide_eq_false h]; simp; omega
  have hform : ∀ (a : Option Addr) (W : World), W.reads W.heap.size (.slice a 2 2) ([lo, hi].map u32V) → Calls Try.prog 67 #[.slice a 2 2, .bool nb] W fun e w' => e = .returned (.tuple #[wideV nb (magB m), .int .i64 0]) ∧ Below W.heap.size W w' := by
    intro a W hr
    have := form_any [lo, hi] (by simp; omega) (by simp) nb (.slice a 2 2) W hr
    rw [hv] at this
    refine this.mono ?_
    rintro e w' ⟨rfl, hb⟩
    refine ⟨?_, hb⟩
    rw [outB_z nb, outE_z nb, hz, (outZ_in n hlim).1, (outZ_in n hlim).2, ← hnb, ← hm]
  have HF := Lib.hid hform
  have hout : outZ n = wideV nb (magB m) := by rw [(outZ_in n hlim).1, ← hnb, ← hm]
  rw [hout]
  obtain ⟨S, hS⟩ : ∃ S, S = magB m := ⟨_, rfl⟩
  rw [← hS] at HF ⊢
  unfold wideV at HF ⊢
  have t3 : (m : Int) % 4294967296 = (lo : Int) := by omega
  have t4 : (m : Int) / 4294967296 % 4294967296 = (hi : Int) := by omega
  by_cases hn : n < 0
  · obtain ⟨a, ha⟩ : ∃ a : Nat, (a : Int) = n + 18446744073709551616 := ⟨(n + 18446744073709551616).toNat, by omega⟩
    have t1 : IntKind.u64.wrap n = (a : Int) := by rw [IntKind.wrap_u64]; omega
    have t2 : IntKind.u64.wrap (-(a : Int)) = (m : Int) := by rw [IntKind.wrap_u64]; omega
    have hnb2 : nb = true := by rw [hnb]; exact decide_eq_true hn
    subst hnb2
    clear hnb ha hm hlo hhi hv hform hout hS hlim hz h1 h2
    go_enter Try.func37, Try.ntmps37
    go_wp2_with fail
    have hb0 : Below w.heap.size w ((w.alloc (.cells #[.bool false, .string ⟨#[]⟩] 38)).alloc (.cells #[.int .u32 (lo : Int), .int .u32 (hi : Int)] 23)) := ((Below.refl _ w).alloc (Nat.le_refl _) _).alloc (by simp) _
    have hg0 : ((w.alloc (.cells #[.bool false, .string ⟨#[]⟩] 38)).alloc (.cells #[.int .u32 (lo : Int), .int .u32 (hi : Int)] 23)).heap[w.heap.size]? = some (.cells #[.bool false, .string ⟨#[]⟩] 38) := by
      rw [Below.heap_alloc _ _ _ (by simp)]; exact heap_alloc_new w _
    have htw := two_new lo hi (w.alloc (.cells #[.bool false, .string ⟨#[]⟩] 38))
    have esz : (w.alloc (.cells #[.bool false, .string ⟨#[]⟩] 38)).heap.size = w.heap.size + 1 := World.size_alloc _ _
    simp only [esz] at htw
    clear esz
    generalize (w.alloc (.cells #[.bool false, .string ⟨#[]⟩] 38)).alloc (.cells #[.int .u32 (lo : Int), .int .u32 (hi : Int)] 23) = W1 at hb0 hg0 htw ⊢
    have hsz := hb0.size
    have hlt1 := lt_of_heap hg0
    (with_reducible refine (HF.out _ W1 htw).mono ?_)
    rintro e w3 ⟨rfl, hb3⟩
    have hg3 := (hb3.block _ hlt1).trans hg0
    have hsz3 := hb3.size
    have c0 : w3.cell? ⟨w.heap.size, 0, none⟩ = some (.bool false) := by rw [cell_of_row w3 _ _ _ _ (0, 0) hg3]; rfl
    have c1 : w3.cell? ⟨w.heap.size, 1, none⟩ = some (.string ⟨#[]⟩) := by rw [cell_of_row w3 _ _ _ _ (0, 0) hg3]; rfl
    have f0 : ∀ o, w3.frozen? ⟨w.heap.size, o, none⟩ = false := fun o => by simp [World.frozen?, hg3]
    have hsl : w.heap.size < w3.heap.size := by omega
    have hsn : ¬ w.heap.size = w3.heap.size := by omega
    have hsn2 : ¬ w3.heap.size = w.heap.size := by omega
    have HB := Lib.hid (hb0.trans (hb3.mono hsz))
    clear hg0 hb0 htw hb3 hlt1 hsz hsz3
    go_wp2
    have hg9 : (((w3.setCell ⟨w.heap.size, 0, none⟩ (.bool true)).setCell ⟨w.heap.size, 1, none⟩ (.string S)).alloc (.cells #[.bool true, .string S] 38)).heap[w.heap.size]? = some (.cells #[.bool true, .string S] 38) := by
      rw [Below.heap_alloc _ _ _ (by simp; omega)]; exact wide_set hg3 true S
    obtain ⟨d0, d1, -⟩ := wide_cells hg9
    have hb9 : Below w.heap.size w (((w3.setCell ⟨w.heap.size, 0, none⟩ (.bool true)).setCell ⟨w.heap.size, 1, none⟩ (.string S)).alloc (.cells #[.bool true, .string S] 38)) := ((HB.out.setCell (by simp) _).setCell (by simp) _).alloc (by simp; omega) _
    generalize ((w3.setCell ⟨w.heap.size, 0, none⟩ (.bool true)).setCell ⟨w.heap.size, 1, none⟩ (.string S)).alloc (.cells #[.bool true, .string S] 38) = W9 at d0 d1 hb9 ⊢
    exact bodyPost_ret (v := .agg #[.bool true, .string S]) (by simp [results, Try.results37, go_sem, d0, d1]) rfl ⟨rfl, hb9⟩
  · have t1 : IntKind.u64.wrap n = (m : Int) := by rw [IntKind.wrap_u64]; omega
    have t5 : (m : Int) / 4294967296 = (hi : Int) := by omega
    have t1b : n % 18446744073709551616 = (m : Int) := by omega
    have hnb2 : nb = false := by rw [hnb]; exact decide_eq_false hn
    subst hnb2
    have hnm : n = (m : Int) := by omega
    subst hnm
    clear hnb hm hlo hhi hv hform hout hS hlim hz h1 h2
    go_enter Try.func37, Try.ntmps37
    go_wp2_with fail
    have hb0 : Below w.heap.size w ((w.alloc (.cells #[.bool false, .string ⟨#[]⟩] 38)).alloc (.cells #[.int .u32 (lo : Int), .int .u32 (hi : Int)] 23)) := ((Below.refl _ w).alloc (Nat.le_refl _) _).alloc (by simp) _
    have hg0 : ((w.alloc (.cells #[.bool false, .string ⟨#[]⟩] 38)).alloc (.cells #[.int .u32 (lo : Int), .int .u32 (hi : Int)] 23)).heap[w.heap.size]? = some (.cells #[.bool false, .string ⟨#[]⟩] 38) := by
      rw [Below.heap_alloc _ _ _ (by simp)]; exact heap_alloc_new w _
    have htw := two_new lo hi (w.alloc (.cells #[.bool false, .string ⟨#[]⟩] 38))
    have esz : (w.alloc (.cells #[.bool false, .string ⟨#[]⟩] 38)).heap.size = w.heap.size + 1 := World.size_alloc _ _
    simp only [esz] at htw
    clear esz
    generalize (w.alloc (.cells #[.bool false, .string ⟨#[]⟩] 38)).alloc (.cells #[.int .u32 (lo : Int), .int .u32 (hi : Int)] 23) = W1 at hb0 hg0 htw ⊢
    have hsz := hb0.size
    have hlt1 := lt_of_heap hg0
    (with_reducible refine (HF.out _ W1 htw).mono ?_)
    rintro e w3 ⟨rfl, hb3⟩
    have hg3 := (hb3.block _ hlt1).trans hg0
    have hsz3 := hb3.size
    have c0 : w3.cell? ⟨w.heap.size, 0, none⟩ = some (.bool false) := by rw [cell_of_row w3 _ _ _ _ (0, 0) hg3]; rfl
    have c1 : w3.cell? ⟨w.heap.size, 1, none⟩ = some (.string ⟨#[]⟩) := by rw [cell_of_row w3 _ _ _ _ (0, 0) hg3]; rfl
    have f0 : ∀ o, w3.frozen? ⟨w.heap.size, o, none⟩ = false := fun o => by simp [World.frozen?, hg3]
    have hsl : w.heap.size < w3.heap.size := by omega
    have hsn : ¬ w.heap.size = w3.heap.size := by omega
    have hsn2 : ¬ w3.heap.size = w.heap.size := by omega
    have HB := Lib.hid (hb0.trans (hb3.mono hsz))
    clear hg0 hb0 htw hb3 hlt1 hsz hsz3
    go_wp2
    have hg9 : (((w3.setCell ⟨w.heap.size, 0, none⟩ (.bool false)).setCell ⟨w.heap.size, 1, none⟩ (.string S)).alloc (.cells #[.bool false, .string S] 38)).heap[w.heap.size]? = some (.cells #[.bool false, .string S] 38) := by
      rw [Below.heap_alloc _ _ _ (by simp; omega)]; exact wide_set hg3 false S
    obtain ⟨d0, d1, -⟩ := wide_cells hg9
    have hb9 : Below w.heap.size w (((w3.setCell ⟨w.heap.size, 0, none⟩ (.bool false)).setCell ⟨w.heap.size, 1, none⟩ (.string S)).alloc (.cells #[.bool false, .string S] 38)) := ((HB.out.setCell (by simp) _).setCell (by simp) _).alloc (by simp; omega) _
    generalize ((w3.setCell ⟨w.heap.size, 0, none⟩ (.bool false)).setCell ⟨w.heap.size, 1, none⟩ (.string S)).alloc (.cells #[.bool false, .string S] 38) = W9 at d0 d1 hb9 ⊢
    exact bodyPost_ret (v := .agg #[.bool false, .string S]) (by simp [results, Try.results37, go_sem, d0, d1]) rfl ⟨rfl, hb9⟩
end Go.Proofs.Ytnjblppapmflhaa

/- Plain: decimal texts. -/
namespace Go.Proofs.Ytnjblppapmflhaa
set_option linter.all false
open Go.WideNum
def isDig (c : UInt8) : Bool := decide (48 ≤ c.toNat ∧ c.toNat ≤ 57)
def decV (l : List UInt8) : Nat := l.foldl (fun a c => a * 10 + (c.toNat - 48)) 0
theorem decV_snoc (l : List UInt8) (c : UInt8) : decV (l ++ [c]) = decV l * 10 + (c.toNat - 48) := by unfold decV; rw [List.foldl_append]; rfl
theorem decV_lt (l : List UInt8) (h : ∀ c ∈ l, isDig c = true) : decV l < 10 ^ l.length := by
  have : ∀ r : List UInt8, (∀ c ∈ r, isDig c = true) → decV r.reverse < 10 ^ r.length := by
    intro r
    induction r with
    | nil => intro _; simp [decV]
    | cons c r ih =>
      intro h
      have h1 := ih (fun x hx => h x (by simp [hx]))
      have h2 := h c (by simp)
      unfold isDig at h2
      have h3 := of_decide_eq_true h2
      rw [List.reverse_cons, decV_snoc, List.length_cons, Nat.pow_succ]
      omega
  have := this l.reverse (fun c hc => h c (List.mem_reverse.1 hc))
  rwa [List.reverse_reverse, List.length_reverse] at this
def readNeg (l : List UInt8) : Bool := l.head? == some 45
def readDig (l : List UInt8) : List UInt8 := if readNeg l then l.tail else l
def headBad (neg : Bool) (d : List UInt8) : Bool := d.isEmpty || (d.head? == some 48 && (neg || decide (1 < d.length)))
def digRes (neg : Bool) (d : List UInt8) : Value × Int :=
  if headBad neg d || !d.all isDig then (emptyW, 6) else if 617 < d.length then (emptyW, 7) else (outZ (zOf neg (decV d)), errZ (zOf neg (decV d)))
/-- What Read answers. -/
def readZ (l : List UInt8) : Value × Int := digRes (readNeg l) (readDig l)
theorem ten617 : (10 : Nat) ^ 617 < 4294967296 ^ 65 := by decide +kernel
theorem dec_len (l : List UInt8) (h : ∀ c ∈ l, isDig c = true) (hl : l.length ≤ 617) : (wd (decV l)).length ≤ 65 := by
  unfold wd
  refine words_length (by omega) _ 65 ?_
  exact Nat.lt_trans (Nat.lt_of_lt_of_le (decV_lt l h) (Nat.pow_le_pow_right (by omega) hl)) ten617
end Go.Proofs.Ytnjblppapmflhaa

/- Walks: the integer of a text. -/
namespace Go.Proofs.Ytnjblppapmflhaa
set_option linter.all false
open Go.RowKit Go.Shelf Go.WideNum
theorem norm_one (z R : Nat) (hz : z < 4294967296) (hR : Hid (R = (trimL ((List.range 1).map (dig 4294967296 z))).length)) (W : World) (g : Nat) (hg : W.heap[g]? = some (.cells #[.int .u32 (z : Int)] 23)) :
    Calls Try.prog 89 #[.slice (some ⟨g, 0, none⟩) 1 1] W fun e w' => (e = .returned (.slice (some ⟨g, 0, none⟩) R 1) ∧ World.numR W (.slice (some ⟨g, 0, none⟩) R 1) z) ∧ W = w' := by
  rw [← row_one z hz] at hg
  refine (norm_rowF (dig 4294967296 z) 1 g R hR W _ hg (by omega)).mono ?_
  rintro e w' ⟨rfl, rfl⟩
  refine ⟨⟨rfl, ?_⟩, rfl⟩
  have h := owns_trim (base := 0) hg (Nat.zero_le _) (by simp)
  rw [range_wd z 1 (by omega)] at h hR
  rw [hR.out]
  simpa using h.reads
theorem below_via {a b c : World} (h : Below a.heap.size a b) (k : Below b.heap.size b c) : Below a.heap.size a c := h.trans (k.mono h.size)
theorem one_at (r : Nat) (hr : r < 4294967296) (h0 : r ≠ 0) (W : World) (g : Nat) (hg : W.heap[g]? = some (.cells #[.int .u32 (r : Int)] 23)) : World.numR W (.slice (some ⟨g, 0, none⟩) 1 1) r := by
  have h1 := wd_len1 r h0 hr
  have hw : wd r = [r] := by
    apply List.ext_getElem?
    intro i
    cases i with
    | zero => rw [wd_get r 0 (by omega), h1.2]; rfl
    | succ i => rw [List.getElem?_eq_none (by omega)]; rfl
  unfold World.numR
  rw [hw]
  have := reads_block (w := W) (l := [u32V r]) hg (lt_of_heap hg) 1 (by simp) (by unfold maxLen; omega)
  simpa [u32V] using this
theorem form_num (n : Nat) (neg : Bool) (v : Value) (w : World) (h : World.numR w v n) (hl : (wd n).length ≤ 2000) : Calls Try.prog 67 #[v, .bool neg] w (FormRet w neg n) := by
  have := form_any (wd n) (words_lt (by omega) n n) hl neg v w h
  rwa [valW_wd] at this
def ReadRet (w : World) (r : Value × Int) (e : Ending) (w' : World) : Prop := e = .returned (.tuple #[r.1, .int .i64 r.2]) ∧ Below w.heap.size w w'
end Go.Proofs.Ytnjblppapmflhaa

/- Moves of a walk through a region that draws its order: reads first, then several stores in one order. -/
namespace Go
set_option linter.all false
open RowKit
section
variable {P : Program} {ops : Array Oper} {Q : Exit → Act → World → Prop} {S : World → Prop} {late : Nat → Bool}
/-- As in a held region; what is late need not keep S. -/
def wpAnyD (P : Program) (ops : Array Oper) (Q : Exit → Act → World → Prop) (S : World → Prop) (late : Nat → Bool) : Nat → Array Bool → Act → World → Prop
  | 0, listed, a, w => Region.ready .any ops listed = [] ∧ Q .normal a w
  | fuel + 1, listed, a, w =>
    (Region.ready .any ops listed = [] → Q .normal a w) ∧
    ∀ i ∈ Region.ready .any ops listed, wpOp P ops Q i (fun a' w' => (late i = false → S w → S w') ∧ wpAnyD P ops Q S late fuel (listed.setIfInBounds i true) a' w') a w
theorem wpAny_of_D : ∀ (fuel : Nat) (listed : Array Bool) (a : Act) (w : World), wpAnyD P ops Q S late fuel listed a w → wpAny P .any ops Q fuel listed a w
  | 0, _, _, _, h => h
  | fuel + 1, _, _, _, h => ⟨h.1, fun i hi => wpOp_mono (fun a' w' h' => wpAny_of_D fuel _ a' w' h'.2) (h.2 i hi)⟩
/-- What is late waits for i. -/
def waitsB (ops : Array Oper) (late : Nat → Bool) (i : Nat) : Bool := (List.range ops.size).all fun j => !late j || ((ops[j]?).map fun o => o.after.any fun e => Region.binds .any e && e.on == i).getD false
theorem late_listed {i j : Nat} {listed : Array Bool} (hw : waitsB ops late i = true) (hl : late j = true) (hr : j ∈ Region.ready .any ops listed) : listed.getD i false = true := by
  rw [mem_ready] at hr
  obtain ⟨-, oL, hoL, h3⟩ := hr
  have hj : j < ops.size := by
    rcases Nat.lt_or_ge j ops.size with h | h
    · exact h
    · rw [Array.getElem?_eq_none h] at hoL; cases hoL
  unfold waitsB at hw
  rw [List.all_eq_true] at hw
  have h4 := hw j (List.mem_range.2 hj)
  rw [hl, hoL, Option.map_some, Option.getD_some, Bool.not_true, Bool.false_or, Array.any_eq_true] at h4
  obtain ⟨k, hk, h5⟩ := h4
  rw [Bool.and_eq_true] at h5
  have h6 := h3 _ (Array.getElem_mem hk) h5.1
  rw [beq_iff_eq.1 h5.2] at h6
  exact h6
theorem wpAnyD_first {i : Nat} {oi : Oper} {v : Value} (hw : waitsB ops late i = true) (hi : ops[i]? = some oi) (hsel : ∀ (j : Nat) (o : Oper) cs b, ops[j]? = some o → o.op ≠ .select cs b)
    (hQ : ∀ c a w, Q (.panic c) (a.put oi.dst v) w → Q (.panic c) a w) :
    ∀ (fuel : Nat) (listed : Array Bool) (a : Act) (w : World),
      (∀ j oj, ops[j]? = some oj → j ≠ i → listed.getD j true = false → (∀ e ∈ oj.after, Region.binds .any e = true → e.on ≠ i) → oi.apart ops oj = true) →
      i ∈ Region.ready .any ops listed → YieldsIf P ops S oi v a → S w →
      wpAnyD P ops Q S late fuel (listed.setIfInBounds i true) (a.put oi.dst v) w → wpAnyD P ops Q S late (fuel + 1) listed a w := by
  intro fuel
  induction fuel with
  | zero =>
    intro listed a w _ hr hy hS H
    refine ⟨fun h => (by rw [h] at hr; cases hr), fun j hj => ?_⟩
    by_cases hji : j = i
    · subst hji; exact hy.wpOp hi hS ⟨fun _ h => h, H⟩
    · have := ready_mono hj hji
      rw [H.1] at this
      cases this
  | succ fuel ih =>
    intro listed a w hfree hr hy hS H
    refine ⟨fun h => (by rw [h] at hr; cases hr), fun j hj => ?_⟩
    by_cases hji : j = i
    · subst hji; exact hy.wpOp hi hS ⟨fun _ h => h, H⟩
    · have hjL : late j = false := by
        cases hl : late j with
        | false => rfl
        | true => exact (unlisted_not (mem_ready.1 hr).1 (late_listed hw hl hj)).elim
      have h1 := H.2 j (ready_mono hj hji)
      obtain ⟨hjun, oj, hoj, hall⟩ := mem_ready.1 hj
      have hnot : ∀ e ∈ oj.after, Region.binds .any e = true → e.on ≠ i := fun e he hb heq => by
        have h1 := hall e he hb
        rw [heq] at h1
        exact unlisted_not (mem_ready.1 hr).1 h1
      have h2 := wpOp_putIf hoj (hfree j oj hoj hji hjun hnot) (fun cs b => hsel i oi cs b hi) (fun cs b => hsel j oj cs b hoj) hQ hy h1
      have hfree' : ∀ k ok, ops[k]? = some ok → k ≠ i → (listed.setIfInBounds j true).getD k true = false →
          (∀ e ∈ ok.after, Region.binds .any e = true → e.on ≠ i) → oi.apart ops ok = true := fun k ok hk hki hun hno => by
        refine hfree k ok hk hki ?_ hno
        by_cases hjk : j = k
        · subst hjk; exact hjun
        · rw [getD_set_ne true hjk] at hun; exact hun
      refine wpOp_mono (fun a' w' h3 => ⟨h3.2.1, ih (listed.setIfInBounds j true) a' w' hfree' (ready_mono hr (Ne.symm hji)) h3.1 (h3.2.1 hjL hS) ?_⟩) h2
      rw [Array.setIfInBounds_comm _ _ hji]
      exact h3.2.2
/-- An operation that yields in every world. -/
theorem wpAnyD_firstW {i : Nat} {oi : Oper} {v : Value} (hi : ops[i]? = some oi) (hsel : ∀ (j : Nat) (o : Oper) cs b, ops[j]? = some o → o.op ≠ .select cs b)
    (hQ : ∀ c a w, Q (.panic c) (a.put oi.dst v) w → Q (.panic c) a w) :
    ∀ (fuel : Nat) (listed : Array Bool) (a : Act) (w : World),
      (∀ j oj, ops[j]? = some oj → j ≠ i → listed.getD j true = false → (∀ e ∈ oj.after, Region.binds .any e = true → e.on ≠ i) → oi.apart ops oj = true) →
      i ∈ Region.ready .any ops listed → YieldsIf P ops (fun _ => True) oi v a →
      wpAnyD P ops Q S late fuel (listed.setIfInBounds i true) (a.put oi.dst v) w → wpAnyD P ops Q S late (fuel + 1) listed a w := by
  intro fuel
  induction fuel with
  | zero =>
    intro listed a w _ hr hy H
    refine ⟨fun h => (by rw [h] at hr; cases hr), fun j hj => ?_⟩
    by_cases hji : j = i
    · subst hji; exact hy.wpOp hi trivial ⟨fun _ h => h, H⟩
    · have := ready_mono hj hji
      rw [H.1] at this
      cases this
  | succ fuel ih =>
    intro listed a w hfree hr hy H
    refine ⟨fun h => (by rw [h] at hr; cases hr), fun j hj => ?_⟩
    by_cases hji : j = i
    · subst hji; exact hy.wpOp hi trivial ⟨fun _ h => h, H⟩
    · have h1 := H.2 j (ready_mono hj hji)
      obtain ⟨hjun, oj, hoj, hall⟩ := mem_ready.1 hj
      have hnot : ∀ e ∈ oj.after, Region.binds .any e = true → e.on ≠ i := fun e he hb heq => by
        have h1 := hall e he hb
        rw [heq] at h1
        exact unlisted_not (mem_ready.1 hr).1 h1
      have h2 := wpOp_putIf (S := fun _ => True) hoj (hfree j oj hoj hji hjun hnot) (fun cs b => hsel i oi cs b hi) (fun cs b => hsel j oj cs b hoj) hQ hy h1
      have hfree' : ∀ k ok, ops[k]? = some ok → k ≠ i → (listed.setIfInBounds j true).getD k true = false →
          (∀ e ∈ ok.after, Region.binds .any e = true → e.on ≠ i) → oi.apart ops ok = true := fun k ok hk hki hun hno => by
        refine hfree k ok hk hki ?_ hno
        by_cases hjk : j = k
        · subst hjk; exact hjun
        · rw [getD_set_ne true hjk] at hun; exact hun
      refine wpOp_mono (fun a' w' h3 => ⟨h3.2.1, ih (listed.setIfInBounds j true) a' w' hfree' (ready_mono hr (Ne.symm hji)) h3.1 ?_⟩) h2
      rw [Array.setIfInBounds_comm _ _ hji]
      exact h3.2.2
theorem wpAnyD_take (i : Nat) {oi : Oper} {v : Value} {fuel : Nat} {listed : Array Bool} {a : Act} {w : World} (hr : (Region.ready .any ops listed).contains i = true) (hw : waitsB ops late i = true) (hi : ops.toList[i]? = some oi)
    (hs : Region.noSelect ops = true) (hf : Region.free .any ops listed i = true)
    (hQ : ∀ c a w, Q (.panic c) (a.put oi.dst v) w → Q (.panic c) a w) (hy : YieldsIf P ops S oi v a) (hS : S w)
    (h : wpAnyD P ops Q S late fuel (listed.setIfInBounds i true) (a.put oi.dst v) w) : wpAnyD P ops Q S late (fuel + 1) listed a w :=
  wpAnyD_first hw (by simpa using hi) (Region.noSelect_spec hs) hQ fuel listed a w (Region.free_spec (by simpa using hi) hf) (by simpa using hr) hy hS h
theorem wpAnyD_takeW (i : Nat) {oi : Oper} {v : Value} {fuel : Nat} {listed : Array Bool} {a : Act} {w : World} (hr : (Region.ready .any ops listed).contains i = true) (hi : ops.toList[i]? = some oi)
    (hs : Region.noSelect ops = true) (hf : Region.free .any ops listed i = true)
    (hQ : ∀ c a w, Q (.panic c) (a.put oi.dst v) w → Q (.panic c) a w) (hy : YieldsIf P ops (fun _ => True) oi v a)
    (h : wpAnyD P ops Q S late fuel (listed.setIfInBounds i true) (a.put oi.dst v) w) : wpAnyD P ops Q S late (fuel + 1) listed a w :=
  wpAnyD_firstW (by simpa using hi) (Region.noSelect_spec hs) hQ fuel listed a w (Region.free_spec (by simpa using hi) hf) (by simpa using hr) hy h
/-- The one operation that may come up; it is late. -/
theorem wpAnyD_step (i : Nat) {o : Oper} {fuel : Nat} {listed : Array Bool} {a : Act} {w : World} (hr : Region.ready .any ops listed = [i]) (hl : late i = true) (ho : ops.toList[i]? = some o)
    (h : ∀ K' : Act → World → Prop, Shut (∀ a w, wpAnyD P ops Q S late fuel (listed.setIfInBounds i true) a w → K' a w) → if Region.wanted o (yielded ops a.tmps) = true then Oper.wp P o a w K' Q else K' (a.put o.dst undef) w) :
    wpAnyD P ops Q S late (fuel + 1) listed a w := by
  refine ⟨fun h0 => (by rw [hr] at h0; cases h0), fun j hj => ?_⟩
  rw [hr] at hj
  obtain rfl : j = i := by simpa using hj
  exact wpOp_step (by simpa using ho) (fun K' hK => h K' (fun a w hW => hK a w ⟨fun h => (by rw [hl] at h; cases h), hW⟩))
theorem wpAnyD_end {fuel : Nat} {listed : Array Bool} {a : Act} {w : World} (hr : Region.ready .any ops listed = []) (h : Q .normal a w) : wpAnyD P ops Q S late fuel listed a w := by
  cases fuel with
  | zero => exact ⟨hr, h⟩
  | succ fuel => exact ⟨fun _ => h, by rw [hr]; simp⟩
theorem wp_region_late {id : Nat} {a : Act} {w : World} (S : World → Prop) (late : Nat → Bool) (hm : P.follows .mixedOrders = true) (hS : S w.drew)
    (h : S w.drew → wpAnyD P ops Q S late ops.size (Array.replicate ops.size false) a w.drew) : (Code.region id ops true).wp P Q a w :=
  wp_region_any hm (wpAny_of_D _ _ _ _ (h hS))
end
end Go

/- Plain: decimal digits, nine at a time; a row that is turned round. -/
namespace Go.Proofs.Ytnjblppapmflhaa
set_option linter.all false
open Go.WideNum
theorem dec_split (N k : Nat) (hk : k ≤ 9) : N / 10 ^ k = N / 1000000000 * 10 ^ (9 - k) + N % 1000000000 / 10 ^ k := by
  have h := Nat.div_add_mod N 1000000000
  have hp : 0 < 10 ^ k := Nat.pow_pos (by omega)
  have e : 10 ^ k * 10 ^ (9 - k) = 1000000000 := by rw [← Nat.pow_add, show k + (9 - k) = 9 by omega]
  conv => lhs; rw [← h, ← e, Nat.mul_assoc, Nat.add_comm, Nat.add_mul_div_left _ _ hp]
  rw [e, Nat.add_comm, Nat.mul_comm]
theorem div_pow_add (n m k : Nat) : n / 10 ^ (m + k) = n / 10 ^ m / 10 ^ k := by rw [Nat.pow_add, Nat.div_div_eq_div_mul]
theorem dig_ten (n m k : Nat) (hk : k < 9) : dig 10 n (m + k) = n / 10 ^ m % 1000000000 / 10 ^ k % 10 := by
  unfold dig
  rw [div_pow_add, dec_split _ k (by omega)]
  obtain ⟨j, hj⟩ : ∃ j, 9 - k = j + 1 := ⟨8 - k, by omega⟩
  rw [hj, Nat.pow_succ, ← Nat.mul_assoc, Nat.add_comm, Nat.add_mul_mod_self_right]
theorem ten_pos {n j : Nat} (h : n / 10 ^ j ≠ 0) : j < (words 10 n).length := by
  rcases Nat.lt_or_ge j (words 10 n).length with h1 | h1
  · exact h1
  · exfalso
    apply h
    exact Nat.div_eq_of_lt (Nat.lt_of_lt_of_le (words_vlt (by omega) n) (Nat.pow_le_pow_right (by omega) h1))
theorem ten_zero {n j : Nat} (h : n / 10 ^ j = 0) : (words 10 n).length ≤ j := by
  refine words_length (by omega) n j ?_
  rcases (Nat.div_eq_zero_iff).1 h with h | h
  · have := Nat.pow_pos (show 0 < 10 by omega) (n := j); omega
  · exact h
/-- The digits of a number, the lowest first, as bytes. -/
def decDig (n m : Nat) : List Nat := (List.range m).map (fun j => 48 + dig 10 n j)
theorem decDig_succ (n m : Nat) : decDig n (m + 1) = decDig n m ++ [48 + dig 10 n m] := by unfold decDig; rw [List.range_succ, List.map_append]; rfl
theorem decDig_words (n : Nat) : decDig n (words 10 n).length = (words 10 n).map (fun d => 48 + d) := by
  unfold decDig
  apply List.ext_getElem
  · simp
  · intro i h1 h2
    have hi : i < (words 10 n).length := by simpa using h1
    have h3 := words_getE (B := 10) (by omega) n i hi
    rw [List.getElem?_eq_getElem hi] at h3
    injection h3 with h3
    simp [h3]
theorem decDig_lt (n m : Nat) : ∀ x ∈ decDig n m, x < 58 := by
  intro x hx
  unfold decDig at hx
  obtain ⟨j, _, rfl⟩ := List.mem_map.1 hx
  have := dig_lt (B := 10) (by omega) n j
  show 48 + dig 10 n j < 58
  omega
/-- What is turned round when i pairs have been swapped. -/
def revTo (l : List Nat) (i : Nat) : List Nat := (List.range l.length).map (fun j => if j < i ∨ l.length - 1 - i < j then l.getD (l.length - 1 - j) 0 else l.getD j 0)
theorem revTo_length (l : List Nat) (i : Nat) : (revTo l i).length = l.length := by simp [revTo]
theorem revTo_zero (l : List Nat) : revTo l 0 = l := by
  apply List.ext_getElem
  · simp [revTo]
  · intro j h1 h2
    simp only [revTo, List.getElem_map, List.getElem_range]
    rw [if_neg (by omega), List.getD_eq_getElem?_getD, List.getElem?_eq_getElem h2]; rfl
theorem revTo_get (l : List Nat) (i j : Nat) (hj : j < l.length) : (revTo l i).getD j 0 = if j < i ∨ l.length - 1 - i < j then l.getD (l.length - 1 - j) 0 else l.getD j 0 := by
  rw [List.getD_eq_getElem?_getD, List.getElem?_eq_getElem (by rw [revTo_length]; exact hj)]
  simp [revTo]
theorem revTo_step (l : List Nat) (i k : Nat) (hik : i < k) (hk : k = l.length - 1 - i) (hk2 : k < l.length) :
    revTo l (i + 1) = ((revTo l i).set i ((revTo l i).getD k 0)).set k ((revTo l i).getD i 0) := by
  have g1 := revTo_get l i k hk2
  have g2 := revTo_get l i i (by omega)
  rw [if_neg (by omega)] at g1 g2
  rw [g1, g2]
  apply List.ext_getElem
  · simp [revTo]
  · intro j h1 h2
    have hj : j < l.length := by simpa [revTo] using h1
    rw [List.getElem_set, List.getElem_set]
    have e : ∀ m (h : j < (revTo l m).length), (revTo l m)[j] = if j < m ∨ l.length - 1 - m < j then l.getD (l.length - 1 - j) 0 else l.getD j 0 := fun m h => by simp [revTo]
    rw [e, e]
    by_cases c1 : k = j
    · rw [if_pos c1, if_pos (by omega)]
      congr 1; omega
    · rw [if_neg c1]
      by_cases c2 : i = j
      · rw [if_pos c2, if_pos (by omega)]
        congr 1; omega
      · rw [if_neg c2]
        by_cases c3 : j < i ∨ l.length - 1 - i < j
        · rw [if_pos c3, if_pos (by omega)]
        · rw [if_neg c3, if_neg (by omega)]
theorem revTo_done (l : List Nat) (i : Nat) (h : l.length ≤ 2 * i + 1) : revTo l i = l.reverse := by
  apply List.ext_getElem
  · simp [revTo]
  · intro j h1 h2
    have hj : j < l.length := by simpa [revTo] using h1
    rw [List.getElem_reverse]
    simp only [revTo, List.getElem_map, List.getElem_range]
    split
    · rw [List.getD_eq_getElem?_getD, List.getElem?_eq_getElem (by omega)]; rfl
    · have : l.length - 1 - j = j := by omega
      rw [List.getD_eq_getElem?_getD, List.getElem?_eq_getElem hj]
      simp [this]
/-- The decimal text of an integer. -/
def textN (neg : Bool) (n : Nat) : List Nat := decDig n (words 10 n).length ++ (if neg then [45] else [])
def textL (neg : Bool) (n : Nat) : List UInt8 := if n = 0 then [48] else (textN neg n).reverse.map UInt8.ofNat
def textB (neg : Bool) (n : Nat) : ByteArray := ⟨(textL neg n).toArray⟩
end Go.Proofs.Ytnjblppapmflhaa

/- Walks: the decimal text of a form. -/
namespace Go.Proofs.Ytnjblppapmflhaa
set_option linter.all false
open Go.RowKit Go.Shelf Go.WideNum
def u8V (x : Nat) : Value := .int .u8 (x : Int)
theorem app_u8 {ops : Array Oper} {rest : List Oper} {o : Oper} {a : Act} {Q : Exit → Act → World → Prop} (W : World) (hg : o.guard = none) (s x : Operand)
    (hop : o.op = .call { callee := .builtin .append, args := #[s, x], argTypes := #[110, 110] })
    (base : Nat) (v : Value) (n : Nat) (xs : List Value) (hs : a.eval s = v) (hown : W.owns base 5 1 v n xs) (u : Int) (H : Nat) (hH : W.heap.size = H) (hx : a.eval x = .slice (some ⟨H, 0, none⟩) 1 1)
    (hn : n ≤ 1000000) (hbase : base ≤ W.heap.size)
    (h : ∀ v' w', w'.owns base 5 1 v' (n + 1) (xs ++ [.int .u8 u]) → W.grownBy w' v.ownBlock → W.heap.size < w'.heap.size → wpList Try.prog ops Q rest (a.put o.dst v') w') : wpList Try.prog ops Q (o :: rest) a (W.alloc (.cells #[.int .u8 u] 5)) := by
  obtain ⟨i0, hi, hz, h1, h2⟩ := info_parts infoByte
  exact wpList_append1 W hg s x 110 hop base 5 i0 (.int .u8 0) 1 Try.underlying110 hi hz h1 h2 rfl v n xs hs hown (.int .u8 u) H hH hx rfl (by unfold maxLen; omega) (by omega) hbase (fun v' w' h1 _ h3 h4 => h v' w' h1 h3 h4)
/-- Bytes that are owned, made a string. -/
theorem own_string {W : World} {base g n c : Nat} {l : List Nat} (h : W.owns base 5 1 (.slice (some ⟨g, 0, none⟩) n c) n (l.map u8V)) (hl : ∀ x ∈ l, x < 256) (dst : TypeId) (hd : Try.prog.underlying dst = some .string) :
    (convert 110 dst (.slice (some ⟨g, 0, none⟩) n c)).run Try.prog W = .ok (.string ⟨(l.map UInt8.ofNat).toArray⟩) W := by
  have hn : l.length = n := by have := h.1; simpa using this
  have e : l.map u8V = (l.map UInt8.ofNat).map fun b => Value.int .u8 (b.toNat : Int) := by
    rw [List.map_map]
    apply List.map_congr_left
    intro x hx
    show Value.int .u8 (x : Int) = Value.int .u8 (((UInt8.ofNat x).toNat : Nat) : Int)
    rw [UInt8.toNat_ofNat', Nat.mod_eq_of_lt (hl x hx)]
  rw [e] at h
  have h2 := run_owns_string (P := Try.prog) (w := W) (m := n) 110 dst 5 Try.underlying110 Try.underlying5 hd h (by simp [hn]) c
  rw [List.take_of_length_le (by simp [hn])] at h2
  exact h2
theorem Valid_wide (neg : Bool) (s : ByteArray) (hs : s.size ≤ maxLen) (w : World) :
    Calls Try.prog 52 #[.agg #[.bool neg, .string s]] w fun e w' => e = .returned (.bool (validB neg s)) ∧ Below w.heap.size w w' := Valid_any neg s hs w
theorem of_wide (neg : Bool) (s : ByteArray) (hs : s.size ≤ 2000) (w : World) : Calls Try.prog 78 #[.agg #[.bool neg, .string s]] w (NumRet w (numB s)) := of_any neg s hs w
theorem short_num (A n : Nat) (hn0 : 0 < n) (hn : n < 4294967296) (va : Value) (w : World) (hA : World.numR w va A) (hla : (wd A).length ≤ 2000) (z : Int) (hz : z = (n : Int)) :
    Calls Try.prog 93 #[va, .int .u32 z] w (ShortRet w A n) := by subst hz; exact short_any A n hn0 hn va w hA hla
theorem owns_fz {W : World} {base g n c : Nat} {e : TypeId} {xs : List Value} (h : W.owns base e 1 (.slice (some ⟨g, 0, none⟩) n c) n xs) (j : Nat) (hj : j < n) : W.frozen? ⟨g, j, none⟩ = false := by
  rcases h.2 with ⟨h0, _⟩ | ⟨g', cap, cur, fz, hv, hb, hg, hf, hle, hm, hs, _⟩
  · cases h0
  · injection hv with h1 h2 h3
    injection h1 with h1
    injection h1 with h1
    subst h1 h3
    have := hf j (by omega)
    simp [World.frozen?, hg]
    omega
theorem below_grown2 {w W W' : World} {v : Value} {n : Nat} {xs : List Value} {e : TypeId} (hb : Below w.heap.size w W) (h : W.owns w.heap.size e 1 v n xs) (hg : W.grownBy W' v.ownBlock) : Below w.heap.size w W' :=
  hb.trans (below_grown h hg w.heap.size (Nat.le_refl _) hb.size)
def TextRet (w : World) (neg : Bool) (s : ByteArray) (e : Ending) (w' : World) : Prop := e = .returned (.tuple #[.string (if validB neg s then textB neg (numB s) else ⟨#[]⟩), .int .i64 (if validB neg s then 0 else 2)]) ∧ Below w.heap.size w w'
end Go.Proofs.Ytnjblppapmflhaa

/- Walks: whether forms are valid, positive, too long. -/
namespace Go.Proofs.Ytnjblppapmflhaa
set_option linter.all false
open Go.RowKit Go.Shelf Go.WideNum
/-- Forms in memory. -/
def World.forms (w : World) (g : Nat) (L : List (Bool × ByteArray)) : Prop := ∀ k x, L[k]? = some x → w.cell? ⟨g, 2 * k, none⟩ = some (.bool x.1) ∧ w.cell? ⟨g, 2 * k + 1, none⟩ = some (.string x.2)
theorem forms_below {w w' : World} {g : Nat} {L : List (Bool × ByteArray)} (h : World.forms w g L) (hg : g < w.heap.size) (hb : Below w.heap.size w w') : World.forms w' g L := fun k x hk =>
  ⟨(hb.cell (p := ⟨g, 2 * k, none⟩) hg).trans (h k x hk).1, (hb.cell (p := ⟨g, 2 * k + 1, none⟩) hg).trans (h k x hk).2⟩
set_option maxRecDepth 100000 in
set_option maxHeartbeats 4000000 in
theorem valid_any (L : List (Bool × ByteArray)) (g : Nat) (hL : L.length ≤ 10) (hs : ∀ x ∈ L, x.2.size ≤ maxLen) (w : World) (hg : World.forms w g L) (hgl : g < w.heap.size) :
    Calls Try.prog 76 #[.slice (some ⟨g, 0, none⟩) L.length L.length] w fun e w' => e = .returned (.bool (L.all fun x => validB x.1 x.2)) ∧ Below w.heap.size w w' := by
  obtain ⟨R, hR⟩ : ∃ R, R = L.all fun x => validB x.1 x.2 := ⟨_, rfl⟩
  rw [← hR]
  obtain ⟨n, hn⟩ : ∃ n, n = L.length := ⟨_, rfl⟩
  rw [← hn] at hL ⊢
  have HR := Lib.hid hR
  have HN := Lib.hid hn
  have HG : Hid (World.forms w g L) := hg
  have HS := Lib.hid hs
  clear hR hn hg hs
  go_enter Try.func76, Try.ntmps76
  go_wp2_with fail
  go_loopw [7] (fun iv wr => ∃ k : Nat, k ≤ n ∧ iv = .int .i64 (k : Int) ∧ Hid ((L.take k).all (fun x => validB x.1 x.2) = true) ∧ Hid (Below w.heap.size w wr)) (fun iv _ => n - (intOf iv).toNat)
  case atStart => exact ⟨0, Nat.zero_le _, rfl, rfl, Below.refl _ _⟩
  case round =>
    obtain ⟨k, hk, rfl, hT, hB⟩ := hrel
    by_cases hlt : k < n
    · have hx : L[k]? = some (L[k]'(by rw [← HN.out]; exact hlt)) := List.getElem?_eq_getElem _
      obtain ⟨x, ex⟩ : ∃ x, x = L[k]'(by rw [← HN.out]; exact hlt) := ⟨_, rfl⟩
      rw [← ex] at hx
      obtain ⟨c0, c1⟩ := forms_below HG.out hgl hB.out k x hx
      have hs63 : x.2.size ≤ maxLen := HS.out x (List.mem_of_getElem? hx)
      have hts : (L.take (k + 1)).all (fun x => validB x.1 x.2) = ((L.take k).all (fun x => validB x.1 x.2) && validB x.1 x.2) := by
        rw [List.take_add_one, hx, List.all_append]; simp
      have HTS := Lib.hid hts
      have HX := Lib.hid hx
      have ek2 : k * 2 + 1 = 2 * k + 1 := by omega
      have ek3 : k * 2 = 2 * k := by omega
      have hszb := hB.out.size
      have HVAL : Hid (∀ W : World, Calls Try.prog 52 #[.agg #[.bool x.1, .string x.2]] W fun e w' => e = .returned (.bool (validB x.1 x.2)) ∧ Below W.heap.size W w') := Valid_wide x.1 x.2 hs63
      clear hts hx ex hs63
      obtain ⟨x1, x2⟩ := x
      dsimp only at c0 c1
      cases hv : validB x1 x2 with
      | false =>
        have hre : R = false := by
          rw [HR.out, Bool.eq_false_iff]
          intro h
          have := List.all_eq_true.1 h _ (List.mem_of_getElem? HX.out)
          rw [hv] at this; cases this
        subst hre
        dsimp only at HVAL
        rw [hv] at HVAL
        clear hv
        go_wp2_with fail
        (with_reducible refine (HVAL.out _).mono ?_)
        rintro e w3 ⟨rfl, hb3⟩
        have HB3 := Lib.hid (hB.out.trans (((Below.refl wr.heap.size wr).alloc (Nat.le_refl _) (.cells #[.bool x1, .string x2] 38)).trans (hb3.mono (by simp)) |>.mono hszb))
        clear hb3
        go_wp2
        go_ret
        exact ⟨rfl, HB3.out⟩
      | true =>
        dsimp only at HVAL HTS
        rw [hv] at HVAL HTS
        clear hv
        go_wp2_with fail
        (with_reducible refine (HVAL.out _).mono ?_)
        rintro e w3 ⟨rfl, hb3⟩
        have HB3 := Lib.hid (hB.out.trans (((Below.refl wr.heap.size wr).alloc (Nat.le_refl _) (.cells #[.bool x1, .string x2] 38)).trans (hb3.mono (by simp)) |>.mono hszb))
        clear hb3
        go_wp2
        go_roundw
        case rel => exact ⟨k + 1, by omega, by go_num, by show _ = _; rw [HTS.out, hT.out]; rfl, HB3.out⟩
        case measure => simp [intOf]; omega
    · obtain rfl : k = n := by omega
      have hre : R = true := by
        rw [HR.out]
        have := hT.out
        rwa [HN.out, List.take_length] at this
      subst hre
      go_wp2
      go_ret
      exact ⟨rfl, hB.out⟩
theorem str_facts (s : ByteArray) (h0 : s.size ≠ 0) : ¬ s = (⟨#[]⟩ : ByteArray) ∧ s.toList.isEmpty = false := by
  refine ⟨fun h => h0 (by rw [h]; rfl), ?_⟩
  rw [ByteArray.toList_eq]
  cases hl : s.data.toList with
  | nil =>
    exfalso
    apply h0
    show s.data.size = 0
    rw [← Array.length_toList, hl]; rfl
  | cons a l => rfl
theorem str_empty (s : ByteArray) (h0 : s.size = 0) : s = ⟨#[]⟩ := by
  apply ByteArray.ext
  exact Array.eq_empty_of_size_eq_zero h0
def posB (neg : Bool) (s : ByteArray) : Bool := validB neg s && (decide (s.size ≠ 0) && !neg)
set_option maxRecDepth 100000 in
set_option maxHeartbeats 4000000 in
theorem positive_any (neg : Bool) (s : ByteArray) (hs : s.size ≤ maxLen) (w : World) :
    Calls Try.prog 96 #[.agg #[.bool neg, .string s]] w fun e w' => e = .returned (.bool (posB neg s)) ∧ Below w.heap.size w w' := by
  have HVAL : Hid (∀ W : World, Calls Try.prog 52 #[.agg #[.bool neg, .string s]] W fun e w' => e = .returned (.bool (validB neg s)) ∧ Below W.heap.size W w') := Valid_wide neg s hs
  obtain ⟨R, hR⟩ : ∃ R, R = posB neg s := ⟨_, rfl⟩
  rw [← hR]
  unfold posB at hR
  have hb0 := (Below.refl w.heap.size w).alloc (Nat.le_refl _) (.cells #[.bool neg, .string s] 38)
  have HB0 := Lib.hid hb0
  clear hb0
  cases hv : validB neg s with
  | false =>
    rw [hv] at HVAL hR
    have hre : R = false := hR
    subst hre
    clear hv hR
    go_enter Try.func96, Try.ntmps96
    go_wp2_with fail
    (with_reducible refine (HVAL.out _).mono ?_)
    rintro e w3 ⟨rfl, hb3⟩
    have HB3 := Lib.hid (HB0.out.trans (hb3.mono (by simp)))
    clear hb3
    go_wp2
    go_ret
    exact ⟨rfl, HB3.out⟩
  | true =>
    rw [hv, Bool.true_and] at hR
    rw [hv] at HVAL
    clear hv
    by_cases h0 : s.size = 0
    · have hre : R = false := by rw [hR, decide_eq_false (by omega)]; rfl
      obtain rfl := str_empty s h0
      subst hre
      clear hR h0
      go_enter Try.func96, Try.ntmps96
      go_wp2_with fail
      (with_reducible refine (HVAL.out _).mono ?_)
      rintro e w3 ⟨rfl, hb3⟩
      obtain ⟨c0, c1, f0⟩ := wide_cells ((hb3.block w.heap.size (by simp)).trans (heap_alloc_new w _))
      have HB3 := Lib.hid (HB0.out.trans (hb3.mono (by simp)))
      clear hb3
      go_wp2
      go_ret
      exact ⟨rfl, HB3.out⟩
    · obtain ⟨hns, hem⟩ := str_facts s h0
      have hre : R = !neg := by rw [hR, decide_eq_true (by omega)]; rfl
      subst hre
      clear hR h0
      go_enter Try.func96, Try.ntmps96
      go_wp2_with fail
      (with_reducible refine (HVAL.out _).mono ?_)
      rintro e w3 ⟨rfl, hb3⟩
      obtain ⟨c0, c1, f0⟩ := wide_cells ((hb3.block w.heap.size (by simp)).trans (heap_alloc_new w _))
      have HB3 := Lib.hid (HB0.out.trans (hb3.mono (by simp)))
      clear hb3
      go_wp2
      go_ret
      exact ⟨rfl, HB3.out⟩
end Go.Proofs.Ytnjblppapmflhaa
