/- Helpers and walks, in one text. -/
import Derived.Deep.Quiet
import Derived.Deep.QuietTactic
import Derived.StillTail
import Derived.BigQuiet
import Derived.WalkKit
import Derived.WalkSmall
import Derived.Lib.Hide
import Derived.Lib.AppendStr
import Derived.Lib.ConvBytes
import Derived.Deep.DeepCutAuto
import Derived.Deep.CutBlock
import Derived.RangeFuncNested
import Derived.RangeFuncBound
import Derived.RangeFuncCalls
import Derived.RangeFuncLeaves
import Derived.Shelf.Abstract
import Derived.Shelf.RegionOpen
import Derived.OwnWalkIn
import Derived.TacticsInMore
import Derived.LoopNIn
import Derived.LoopIn
import Derived.Sort.BigQuietIn
import Derived.Stop.RegionWithIn
import Derived.BigRegionIn
import Derived.BigFrameIn
import Derived.Deep.RegionHeld3
/- Regions, rows that are owned, slices that read as lists, iterators, appends, rows of rows: what every walk uses. -/
/- A region that draws its order: operations at its head that only read (in a class of worlds), then operations in one forced order: one walk serves every order. -/
namespace Go
/-- Draws stand outermost. -/
@[go_sem] theorem World.setCell_drewN (w : World) (n : Nat) (a : Addr) (v : Value) : (w.drewN n).setCell a v = (w.setCell a v).drewN n := rfl
@[go_sem] theorem World.alloc_drewN (w : World) (n : Nat) (o : Obj) : (w.drewN n).alloc o = (w.alloc o).drewN n := rfl
section
variable {P : Program} {ops : Array Oper} {md : Region.Mode} {C : World → Prop}

def wpAnyQL (P : Program) (md : Region.Mode) (ops : Array Oper) (C : World → Prop) (n : Nat) (L : Array Bool → Act → Prop) : Nat → Array Bool → Act → Prop
  | 0, listed, a => L listed a
  | f + 1, listed, a =>
    Region.ready md ops listed ≠ [] ∧ ∀ i ∈ Region.ready md ops listed, i < n ∧ qOp P ops C i (wpAnyQL P md ops C n L f (listed.setIfInBounds i true)) a

theorem wpAny_of_headQ {n g : Nat} {L : Array Bool → Act → Prop} {Q' : Exit → Act → World → Prop} (hL : ∀ listed a w, C w → L listed a → wpAny P md ops Q' g listed a w) :
    ∀ (f : Nat) (listed : Array Bool) (a : Act) (w : World), C w → wpAnyQL P md ops C n L f listed a → wpAny P md ops Q' (f + g) listed a w
  | 0, listed, a, w, hw, h => by rw [Nat.zero_add]; exact hL _ _ _ hw h
  | f + 1, listed, a, w, hw, h => by
    rw [show f + 1 + g = (f + g) + 1 by omega]
    exact ⟨fun h0 => absurd h0 h.1, fun i hi => wpOp_of_qOp hw (fun a' w' hw' h' => wpAny_of_headQ hL f _ a' w' hw' h') (h.2 i hi).2⟩

theorem wpAnyQL_first {n i : Nat} {oi : Oper} {v : Value} {L : Array Bool → Act → Prop} (hi : ops[i]? = some oi) (hsel : ∀ (j : Nat) (o : Oper) cs b, ops[j]? = some o → o.op ≠ .select cs b)
    (hs : Region.sinkB md ops n = true) (hc : Region.chainB md ops n = true) (hn : n < ops.size) (hin : i < n)
    (hdone : ∀ listed a, L listed a → ∀ j ∈ Region.ready md ops listed, n ≤ j) :
    ∀ (f : Nat) (listed : Array Bool) (a : Act), HeadInv md ops n listed →
      (∀ j oj, ops[j]? = some oj → j ≠ i → listed.getD j true = false → (∀ e ∈ oj.after, Region.binds md e = true → e.on ≠ i) → oi.apart ops oj = true) →
      i ∈ Region.ready md ops listed → YieldsIn P ops C oi v a →
      wpAnyQL P md ops C n L f (listed.setIfInBounds i true) (a.put oi.dst v) → wpAnyQL P md ops C n L (f + 1) listed a := by
  intro f
  induction f with
  | zero =>
    intro listed a inv _ hr hy H
    have hun := (mem_ready.1 hr).1
    refine ⟨fun h => (by rw [h] at hr; cases hr), fun j hj => ?_⟩
    have hjn : j < n := by
      rcases Nat.lt_or_ge j n with h | h
      · exact h
      · exact absurd hj (tail_waits hs hc hn inv _ i rfl hin hun j h)
    refine ⟨hjn, ?_⟩
    by_cases hji : j = i
    · subst hji; exact hy.qOp hi H
    · have := hdone _ _ H j (ready_mono hj hji)
      omega
  | succ f ih =>
    intro listed a inv hfree hr hy H
    have hun := (mem_ready.1 hr).1
    refine ⟨fun h => (by rw [h] at hr; cases hr), fun j hj => ?_⟩
    have hjn : j < n := by
      rcases Nat.lt_or_ge j n with h | h
      · exact h
      · exact absurd hj (tail_waits hs hc hn inv _ i rfl hin hun j h)
    refine ⟨hjn, ?_⟩
    by_cases hji : j = i
    · subst hji; exact hy.qOp hi H
    · have h1 := (H.2 j (ready_mono hj hji)).2
      obtain ⟨hjun, oj, hoj, hall⟩ := mem_ready.1 hj
      have hnot : ∀ e ∈ oj.after, Region.binds md e = true → e.on ≠ i := fun e he hb heq => by
        have h1 := hall e he hb
        rw [heq, getD_both hun] at h1
        cases h1
      have h2 := qOp_put hoj (hfree j oj hoj hji hjun hnot) (fun cs b => hsel i oi cs b hi) (fun cs b => hsel j oj cs b hoj) hy h1
      have hfree' : ∀ k ok, ops[k]? = some ok → k ≠ i → (listed.setIfInBounds j true).getD k true = false →
          (∀ e ∈ ok.after, Region.binds md e = true → e.on ≠ i) → oi.apart ops ok = true := fun k ok hk hki hun hno => by
        refine hfree k ok hk hki ?_ hno
        by_cases hjk : j = k
        · subst hjk; exact hjun
        · rw [getD_set_ne true hjk] at hun; exact hun
      refine qOp_mono (fun a' h3 => ih (listed.setIfInBounds j true) a' (inv.set hj hjn) hfree' (ready_mono hr (Ne.symm hji)) h3.1 ?_) h2
      rw [Array.setIfInBounds_comm _ _ hji]
      exact h3.2

theorem wpAnyQL_lex {n g : Nat} {Lq : Act → Prop} (hsel : Region.noSelect ops = true) (hs : Region.sinkB md ops n = true) (hc : Region.chainB md ops n = true) (hn : n < ops.size) :
    ∀ (l : List Oper) (k : Nat) (listed : Array Bool) (a : Act), (∀ j, j < l.length → l[j]? = ops[k + j]?) → k + l.length = n → HeadInv md ops n listed →
    Region.lexHead md ops g l.length k listed = true → wpQuiet P ops C Lq l a →
    wpAnyQL P md ops C n (fun listed' a' => Region.seqB md ops g n listed' = true ∧ Lq a') l.length listed a
  | [], k, listed, a, _, hk, _, hB, h => by
    have : k = n := by simpa using hk
    subst this
    exact ⟨by simpa [Region.lexHead] using hB, h⟩
  | o :: l, k, listed, a, hl, hk, inv, hB, h => by
    have h0 : ops[k]? = some o := by simpa using (hl 0 (by simp)).symm
    simp only [List.length_cons, Region.lexHead, Bool.and_eq_true] at hB
    obtain ⟨⟨hr, hf⟩, hB'⟩ := hB
    have hkn : k < n := by simp only [List.length_cons] at hk; omega
    have hr' : k ∈ Region.ready md ops listed := by simpa using hr
    have hst : qOp P ops C k (wpQuiet P ops C Lq l) a := by unfold qOp; simp only [h0]; exact h
    obtain ⟨v, hy, hK⟩ := yieldsIn_of_qOp h0 hst
    exact wpAnyQL_first h0 (Region.noSelect_spec hsel) hs hc hn hkn (fun listed' a' hL => seqB_ready hL.1) l.length listed a inv (Region.free_spec h0 hf) hr' hy
      (wpAnyQL_lex hsel hs hc hn l (k + 1) _ _ (fun j hj => by have := hl (j + 1) (by simp; omega); simpa [Nat.add_assoc, Nat.add_comm 1 j] using this) (by simp only [List.length_cons] at hk; omega) (inv.set hr' hkn) hB' hK)

/-- The first n operations only read, in every world of the class C; the others stand in one forced order behind them. -/
theorem wp_region_quiet_tail {id : Nat} {Q : Exit → Act → World → Prop} {a : Act} {w : World} {l : List Oper} (n : Nat) (hm : P.follows .mixedOrders = true) (hB : Region.lexTailB .any l.toArray n = true)
    (hC : C w.drew) (h : wpQuiet P l.toArray C (fun a' => ∀ w', C w' → wpList P l.toArray Q (l.drop n) a' w') (l.take n) a) : (Code.region id l.toArray true).wp P Q a w := by
  simp only [Region.lexTailB, Bool.and_eq_true, decide_eq_true_eq] at hB
  obtain ⟨⟨⟨⟨hsel, hn⟩, hs⟩, hc⟩, hlex⟩ := hB
  have hn' : n < l.length := by simpa using hn
  have htl : (l.take n).length = n := by simp; omega
  have hdl : (l.drop n).length = l.toArray.size - n := by simp
  have inv0 : HeadInv .any l.toArray n (Array.replicate l.toArray.size false) :=
    ⟨by simp, fun j oj _ hl => (by rw [getD_replicate_false] at hl; cases hl), fun t _ ht => getD_in (by simpa using ht) (getD_replicate_false _ _)⟩
  have H := wpAnyQL_lex (md := .any) (g := l.toArray.size - n) hsel hs hc hn (l.take n) 0 _ a (fun j hj => by
    have hj' : j < n := by rw [htl] at hj; exact hj
    simp [hj']) (by simpa using htl) inv0 (by rw [htl]; exact hlex) h
  refine wp_region_any hm ?_
  have := wpAny_of_headQ (Q' := Q) (g := l.toArray.size - n) (fun listed a' w' hw' hL => by
    have := wpAny_of_seq (md := .any) (Q' := Q) (l.drop n) n listed a' w' (fun j => by simp [List.getElem?_drop]) (by rw [hdl]; exact hL.1) (hL.2 _ hw')
    rwa [hdl] at this) _ _ _ _ hC H
  rw [htl, show n + (l.toArray.size - n) = l.toArray.size by omega] at this
  exact this
/-- The same at the class 'w after some draws'. -/
theorem wp_region_quiet_tail_lit {id : Nat} {Q : Exit → Act → World → Prop} {a : Act} {w : World} {l : List Oper} (n : Nat) (hm : P.follows .mixedOrders = true) (hB : Region.lexTailB .any l.toArray n = true)
    (h : wpQuiet P l.toArray (fun w' => ∃ n, w' = w.drewN n) (fun a' => ∀ w', (∃ n, w' = w.drewN n) → wpList P l.toArray Q (l.drop n) a' w') (l.take n) a) : (Code.region id l.toArray true).wp P Q a w :=
  wp_region_quiet_tail (C := fun w' => ∃ n, w' = w.drewN n) n hm hB ⟨1, rfl⟩ h
/-- The same where draws have been made before: the class is counted from the world without draws. -/
theorem wp_region_quiet_tail_at {id k : Nat} {Q : Exit → Act → World → Prop} {a : Act} {w : World} {l : List Oper} (n : Nat) (hm : P.follows .mixedOrders = true) (hB : Region.lexTailB .any l.toArray n = true)
    (h : wpQuiet P l.toArray (fun w' => ∃ n, w' = w.drewN n) (fun a' => ∀ w', (∃ n, w' = w.drewN n) → wpList P l.toArray Q (l.drop n) a' w') (l.take n) a) : (Code.region id l.toArray true).wp P Q a (w.drewN k) :=
  wp_region_quiet_tail (C := fun w' => ∃ n, w' = w.drewN n) n hm hB ⟨k + 1, rfl⟩ h
end
/-! ### Blocks -/
theorem alloc_last (w : World) (o : Obj) {n : Nat} (h : n = w.heap.size) : (w.alloc o).heap[n]? = some o := by
  subst h; exact heap_alloc_new w o
theorem lt_of_heap {w : World} {b : Nat} {o : Obj} (h : w.heap[b]? = some o) : b < w.heap.size := by
  rcases Nat.lt_or_ge b w.heap.size with h' | h'
  · exact h'
  · rw [Array.getElem?_eq_none h'] at h; cases h
end Go

/- A row that the call owns, its frozen stretch being harmless (a conversion's row is marked behind its end). -/
namespace Go
open RowKit
open Lib (strCells strCells_length strCells_oneCell)
/-- No cell of the row is frozen. -/
def okFz (fz : Nat × Nat) (n : Nat) : Prop := ∀ o, o < n → ¬ (fz.1 ≤ o ∧ o < fz.2)
theorem okFz_zero (n : Nat) : okFz (0, 0) n := fun _ _ h => by omega
/-- The slice value v, of n elements of size cells each, owns the cells xs. -/
def World.owns (w : World) (base : Nat) (e : TypeId) (size : Nat) (v : Value) (n : Nat) (xs : List Value) : Prop :=
  xs.length = n * size ∧
  ((v = .slice none 0 0 ∧ n = 0) ∨
   ∃ g cap cur fz, v = .slice (some ⟨g, 0, none⟩) n cap ∧ base ≤ g ∧ w.heap[g]? = some (.cells cur e fz) ∧ okFz fz cur.size ∧ n ≤ cap ∧ cap ≤ maxLen ∧ cur.size = cap * size ∧ cur.toList.take (n * size) = xs)
section
variable {w : World} {base : Nat} {e : TypeId} {size : Nat} {v : Value} {n : Nat} {xs : List Value}
theorem World.owns_of (h : w.ownsRow base e size v n xs) : w.owns base e size v n xs := by
  refine ⟨h.1, ?_⟩
  rcases h.2 with hn | ⟨g, cap, cur, hv, hb, hg, rest⟩
  · exact .inl hn
  · exact .inr ⟨g, cap, cur, (0, 0), hv, hb, hg, okFz_zero _, rest⟩
theorem World.owns_nil (w : World) (base : Nat) (e : TypeId) (size : Nat) : w.owns base e size (.slice none 0 0) 0 [] := ⟨by simp, .inl ⟨rfl, rfl⟩⟩
theorem World.owns.lt (h : w.owns base e size v n xs) : ∀ k, v.ownBlock = some k → base ≤ k ∧ k < w.heap.size := by
  intro k hk
  rcases h.2 with ⟨rfl, _⟩ | ⟨g, cap, cur, fz, rfl, hb, hg, _⟩
  · simp [Value.ownBlock] at hk
  · simp [Value.ownBlock] at hk
    subst hk
    exact ⟨hb, lt_of_heap hg⟩
theorem World.owns.kept {w' : World} {row : Option Nat} (h : w.owns base e size v n xs) (hg : w.grownBy w' row) (hne : v.ownBlock = none ∨ v.ownBlock ≠ row) : w'.owns base e size v n xs := by
  refine ⟨h.1, ?_⟩
  rcases h.2 with hn | ⟨g, cap, cur, fz, rfl, hb, hgg, rest⟩
  · exact .inl hn
  · refine .inr ⟨g, cap, cur, fz, rfl, hb, ?_, rest⟩
    rw [hg.block g (lt_of_heap hgg) (by simpa [Value.ownBlock] using hne)]
    exact hgg
theorem World.owns.alloc (h : w.owns base e size v n xs) (o : Obj) : (w.alloc o).owns base e size v n xs :=
  h.kept (World.grownBy_alloc w o none) (by cases hv : v.ownBlock <;> simp)
theorem World.owns.drew (h : w.owns base e size v n xs) : w.drew.owns base e size v n xs := h
theorem World.owns.drewN (h : w.owns base e size v n xs) (k : Nat) : (w.drewN k).owns base e size v n xs := h
theorem World.owns.mono {base' : Nat} (h : w.owns base e size v n xs) (hb : base' ≤ base) : w.owns base' e size v n xs := by
  refine ⟨h.1, ?_⟩
  rcases h.2 with hn | ⟨g, cap, cur, fz, rfl, hb', rest⟩
  · exact .inl hn
  · exact .inr ⟨g, cap, cur, fz, rfl, Nat.le_trans hb hb', rest⟩
theorem World.owns.below {w' : World} (h : w.owns base e size v n xs) (hb : Below w.heap.size w w') : w'.owns base e size v n xs := by
  refine ⟨h.1, ?_⟩
  rcases h.2 with hn | ⟨g, cap, cur, fz, rfl, hb', hgg, rest⟩
  · exact .inl hn
  · refine .inr ⟨g, cap, cur, fz, rfl, hb', ?_, rest⟩
    rw [hb.block g (lt_of_heap hgg)]; exact hgg
/-- A store into a block below the base. -/
theorem World.owns.setCell (h : w.owns base e size v n xs) {a : Addr} (ha : a.block < base) (u : Value) : (w.setCell a u).owns base e size v n xs := by
  refine ⟨h.1, ?_⟩
  rcases h.2 with hn | ⟨g, cap, cur, fz, rfl, hb', hgg, rest⟩
  · exact .inl hn
  · refine .inr ⟨g, cap, cur, fz, rfl, hb', ?_, rest⟩
    rw [Below.heap_setCell _ _ _ _ (by omega)]; exact hgg
/-- A store into another block. -/
theorem World.owns.setCell_ne (h : w.owns base e size v n xs) {a : Addr} (ha : v.ownBlock ≠ some a.block) (u : Value) : (w.setCell a u).owns base e size v n xs := by
  refine ⟨h.1, ?_⟩
  rcases h.2 with hn | ⟨g, cap, cur, fz, rfl, hb', hgg, rest⟩
  · exact .inl hn
  · refine .inr ⟨g, cap, cur, fz, rfl, hb', ?_, rest⟩
    rw [Below.heap_setCell _ _ _ _ (by intro e; apply ha; simp [Value.ownBlock, e])]; exact hgg
theorem World.owns.cells (h : w.owns base e size v n xs) {g : Nat} (hg : v.ownBlock = some g) : ∀ j u, xs[j]? = some u → w.cell? ((⟨g, 0, none⟩ : Addr).add j) = some u := by
  intro j u hu
  rcases h.2 with ⟨rfl, _⟩ | ⟨g', cap, cur, fz, rfl, _, hgg, _, _, _, _, htake⟩
  · simp [Value.ownBlock] at hg
  · simp [Value.ownBlock] at hg
    subst hg
    have hadd : (⟨g', 0, none⟩ : Addr).add j = ⟨g', j, none⟩ := by unfold Addr.add; split <;> simp_all
    rw [hadd, cell_of_row w g' j cur e fz hgg]
    rw [← htake, List.getElem?_take] at hu
    split at hu
    · simpa using hu
    · cases hu
theorem World.owns.cell {g len cap : Nat} (h : w.owns base e size (.slice (some ⟨g, 0, none⟩) len cap) n xs) (j : Nat) (u : Value) (hj : xs[j]? = some u) : w.cell? ⟨g, j, none⟩ = some u := by
  have := h.cells rfl j u hj
  rwa [show (⟨g, 0, none⟩ : Addr).add j = ⟨g, j, none⟩ by unfold Addr.add; split <;> simp_all] at this
theorem World.owns.facts {g len cap : Nat} (h : w.owns base e size (.slice (some ⟨g, 0, none⟩) len cap) n xs) : len = n ∧ n ≤ cap ∧ base ≤ g ∧ cap ≤ maxLen ∧ g < w.heap.size := by
  rcases h.2 with ⟨h0, _⟩ | ⟨g', cap', cur, fz, hv, hb, hg, _, hle, hm, _⟩
  · cases h0
  · cases hv; exact ⟨rfl, hle, hb, hm, lt_of_heap hg⟩
theorem World.owns.succ {k : Nat} (h : w.owns base e size v (k + 1) xs) : ∃ g cap, v = .slice (some ⟨g, 0, none⟩) (k + 1) cap := by
  rcases h.2 with ⟨_, h0⟩ | ⟨g, cap, _, _, rfl, _⟩
  · omega
  · exact ⟨g, cap, rfl⟩
end
theorem World.owns.pos {w : World} {base : Nat} {e : TypeId} {size : Nat} {v : Value} {n : Nat} {xs : List Value} (h : w.owns base e size v n xs) (hn : 0 < n) : ∃ g cap, v = .slice (some ⟨g, 0, none⟩) n cap := by
  rcases h.2 with ⟨_, h0⟩ | ⟨g, cap, _, _, rfl, _⟩
  · omega
  · exact ⟨g, cap, rfl⟩
theorem run_storeCells_fz (P : Program) (g o : Nat) (t : TypeId) (fz : Nat × Nat) : ∀ (vs : List Value) (i : Nat) (cur : Array Value) (w : World), w.heap[g]? = some (.cells cur t fz) → okFz fz cur.size → o + i + vs.length ≤ cur.size → (∀ v ∈ vs, v.oneCell' = true) →
    (storeCells ⟨g, o, none⟩ vs i).run P w = .ok () (w.setRow g (cur.toList.take (o + i) ++ vs ++ cur.toList.drop (o + i + vs.length)).toArray)
  | [], i, cur, w, hg, _, _, _ => by
    simp only [storeCells, List.append_nil, List.length_nil, Nat.add_zero, List.take_append_drop, Array.toArray_toList]
    rw [setRow_self w g cur t fz hg]
    rfl
  | v :: rest, i, cur, w, hg, hfz, hl, h1 => by
    have hi : o + i < cur.size := by simp at hl; omega
    have hadd : (⟨g, o, none⟩ : Addr).add i = ⟨g, o + i, none⟩ := by unfold Addr.add; split <;> simp_all
    have hcell : w.cell? ⟨g, o + i, none⟩ = some cur[o + i] := by simp [World.cell?, hg, hi]
    have hfro : w.frozen? ⟨g, o + i, none⟩ = false := by
      have := hfz (o + i) hi
      obtain ⟨lo, hi'⟩ := fz
      simp only [World.frozen?, hg, Bool.and_eq_false_iff, decide_eq_false_iff_not]
      simp only at this
      omega
    have hst : (store ((⟨g, o, none⟩ : Addr).add i) v).run P w = .ok () (w.setRow g (cur.setIfInBounds (o + i) v)) := by
      rw [hadd, run_store P w _ v _ (h1 v (by simp)), hcell]
      simp [hfro, setCell_eq_setRow w g (o + i) cur t fz v hg]
    have ih := run_storeCells_fz P g o t fz rest (i + 1) (cur.setIfInBounds (o + i) v) (w.setRow g (cur.setIfInBounds (o + i) v)) (setRow_heap w g cur _ t _ hg) (by simpa using hfz) (by simp at hl ⊢; omega) (fun x hx => h1 x (by simp [hx]))
    simp only [storeCells, Sem.run_bind, hst, Result.andThen_ok, ih, setRow_setRow]
    congr 3
    have e := list_seg_step cur.toList (o + i) v rest (by simp at hl ⊢; omega)
    simpa [Array.toList_setIfInBounds, Nat.add_assoc] using e
section
variable {P : Program} (w : World)
theorem run_append_room_fz (t ty e : TypeId) (i : TypeInfo) (ht : P.underlying t = some (.slice e)) (hi : P.info? e = some i)
    (g sLen sCap : Nat) (cur : Array Value) (fz : Nat × Nat) (hg : w.heap[g]? = some (.cells cur e fz)) (hfz : okFz fz cur.size)
    (a : Addr) (m c : Nat) (news : List Value) (hl : news.length = m * i.size) (hnews : ∀ j u, news[j]? = some u → w.cell? (a.add j) = some u) (h1 : ∀ u ∈ news, u.oneCell' = true)
    (hroom : sLen + m ≤ sCap) (hfit : sLen * i.size + news.length ≤ cur.size) :
    (Builtin.append_ #[t, t] ty #[.slice (some ⟨g, 0, none⟩) sLen sCap, .slice (some a) m c]).run P w =
      .ok (.slice (some ⟨g, 0, none⟩) (sLen + m) sCap) (w.setRow g (cur.toList.take (sLen * i.size) ++ news ++ cur.toList.drop (sLen * i.size + news.length)).toArray) := by
  have hf := run_firstCells_some (P := P) w i.size m a m c news hl hnews
  have hst := run_storeCells_fz P g (sLen * i.size) e fz news 0 cur w hg hfz (by simpa using hfit) h1
  simp only [Nat.add_zero] at hst
  simp [Builtin.append_, run_underlying ht, sizeOf, typeInfo, hi, Builtin.lenOf, hroom, hf, Addr.add_lit, hst]
/-- append of a slice that reads as 'news' to an owned one. -/
theorem run_append_owns (base : Nat) (t ty e : TypeId) (i : TypeInfo) (z : Value) (size bytes : Nat) (ht : P.underlying t = some (.slice e)) (hi : P.info? e = some i) (hz : i.zero = some z)
    (hsize : i.size = size) (hby : i.bytes = bytes) (hzs : z.cells.size = size) (hsz : 0 < size)
    (v : Value) (n : Nat) (xs : List Value) (hown : w.owns base e size v n xs)
    (a : Addr) (m c : Nat) (news : List Value) (hl : news.length = m * size) (hnews : ∀ j u, news[j]? = some u → w.cell? (a.add j) = some u) (h1 : ∀ u ∈ news, u.oneCell' = true)
    (h63 : n + m ≤ maxLen) (hbytes : (n + m) * bytes ≤ 140737488355328) (hbase : base ≤ w.heap.size) :
    ∃ v' w', (Builtin.append_ #[t, t] ty #[v, .slice (some a) m c]).run P w = .ok v' w' ∧ w'.owns base e size v' (n + m) (xs ++ news) ∧ w.grownBy w' v.ownBlock ∧
      (v' = .slice none 0 0 ↔ v = .slice none 0 0 ∧ m = 0) := by
  rcases hown.2 with ⟨rfl, rfl⟩ | ⟨g, cap, cur, fz, rfl, hbg, hg, hfz, hnc, hcm, hcs, htake⟩
  · obtain ⟨v', w', h1, h2, h3, h4⟩ := run_append_own (P := P) w base t ty e i z size bytes ht hi hz hsize hby hzs hsz (.slice none 0 0) 0 xs ⟨hown.1, .inl ⟨rfl, rfl⟩⟩ a m c news hl hnews h1 h63 hbytes hbase
    exact ⟨v', w', h1, World.owns_of h2, h3, h4⟩
  · subst hsize
    subst hby
    have hsmall : n + m ≤ 9223372036854775807 := by simp only [maxLen] at h63; omega
    have hlen : (xs ++ news).length = (n + m) * i.size := by rw [List.length_append, hown.1, hl, Nat.add_mul]
    by_cases hroom : n + m ≤ cap
    · have hfit : n * i.size + news.length ≤ cur.size := by rw [hl, hcs, ← Nat.add_mul]; exact Nat.mul_le_mul_right _ hroom
      have hr := run_append_room_fz (P := P) w t ty e i ht hi g n cap cur fz hg hfz a m c news hl hnews h1 hroom hfit
      have hsz' : (cur.toList.take (n * i.size) ++ news ++ cur.toList.drop (n * i.size + news.length)).toArray.size = cur.size := by
        simp only [List.size_toArray, List.length_append, List.length_take, List.length_drop, Array.length_toList]
        omega
      refine ⟨_, _, hr, ⟨hlen, .inr ⟨g, cap, _, fz, rfl, hbg, setRow_heap w g cur _ e _ hg, by rw [hsz']; exact hfz, hroom, hcm, by rw [hsz']; exact hcs, ?_⟩⟩, ⟨rfl, rfl, rfl, by simp, fun k _ hk => setRow_other w g k _ (fun e => hk (by simp [Value.ownBlock, e]))⟩, by simp⟩
      rw [htake, ← hlen]
      exact List.take_left
    · have holds : ∀ j u, xs[j]? = some u → w.cell? ((⟨g, 0, none⟩ : Addr).add j) = some u := hown.cells (g := g) rfl
      have hr := run_append_grow (P := P) w t ty e i z ht hi hz ⟨g, 0, none⟩ n cap xs hown.1 holds a m c news hl hnews (by omega) (by omega) (growslice_fits (by omega) hbytes)
      have hge := grownCap_ge w (n + m) cap e
      have hcm2 : grownCap w (n + m) cap e ≤ maxLen := grownCap_le_maxLen w (n + m) cap e h63
      refine ⟨_, _, hr, ⟨hlen, .inr ⟨w.heap.size, _, _, (0, 0), rfl, hbase, heap_alloc_new w.drew _, okFz_zero _, hge, hcm2, ?_, ?_⟩⟩, ⟨rfl, rfl, rfl, by simp, fun k hk _ => Below.heap_alloc w.drew _ k hk⟩, by simp⟩
      · simp only [Array.size_append, List.size_toArray, size_zeroCells, hzs, hown.1, hl, ← Nat.add_mul]
        congr 1
        omega
      · simp only [Array.toList_append, List.append_assoc]
        rw [← List.append_assoc, ← hlen]
        exact List.take_left
theorem wpList_append_owns {ops : Array Oper} {rest : List Oper} {o : Oper} {a : Act} {Q : Exit → Act → World → Prop} (hgd : o.guard = none) (s x : Operand) (t : TypeId)
    (ho : o.op = .call { callee := .builtin .append, args := #[s, x], argTypes := #[t, t] })
    (base : Nat) (e : TypeId) (i : TypeInfo) (z : Value) (size bytes : Nat) (ht : P.underlying t = some (.slice e)) (hi : P.info? e = some i) (hz : i.zero = some z)
    (hsize : i.size = size) (hby : i.bytes = bytes) (hzs : z.cells.size = size) (hsz : 0 < size)
    (v : Value) (n : Nat) (xs : List Value) (hs : a.eval s = v) (hown : w.owns base e size v n xs)
    (ad : Addr) (m c : Nat) (news : List Value) (hx : a.eval x = .slice (some ad) m c) (hl : news.length = m * size) (hnews : ∀ j u, news[j]? = some u → w.cell? (ad.add j) = some u) (h1 : ∀ u ∈ news, u.oneCell' = true)
    (h63 : n + m ≤ maxLen) (hbytes : (n + m) * bytes ≤ 140737488355328) (hbase : base ≤ w.heap.size)
    (h : ∀ v' w', w'.owns base e size v' (n + m) (xs ++ news) → w.grownBy w' v.ownBlock → (v' = .slice none 0 0 ↔ v = .slice none 0 0 ∧ m = 0) → wpList P ops Q rest (a.put o.dst v') w') : wpList P ops Q (o :: rest) a w := by
  refine wpList_plain hgd fun K hK => ?_
  obtain ⟨v', w', hr, h2, h3, h4⟩ := run_append_owns (P := P) w base t o.type e i z size bytes ht hi hz hsize hby hzs hsz v n xs hown ad m c news hl hnews h1 h63 hbytes hbase
  unfold Oper.wp execOp
  simp only [ho, resolve, invoke, builtin, Sem.run_bind, Sem.run_pure, Result.andThen_ok, List.map_toArray, List.map_cons, List.map_nil, hs, hx, hr]
  exact hK _ _ (h v' w' h2 h3 h4)
end
/-! ### Bytes and strings -/
section
variable {P : Program} (w : World)
/-- An owned row of bytes, cut at its head and made a string. -/
theorem run_owns_string {w : World} {base g len cap n m : Nat} {l : List UInt8} (src dst e : TypeId) (hs : P.underlying src = some (.slice e)) (he : P.underlying e = some (.int .u8)) (hd : P.underlying dst = some .string)
    (h : w.owns base e 1 (.slice (some ⟨g, 0, none⟩) len cap) n (l.map fun b => Value.int .u8 (b.toNat : Int))) (hm : m ≤ l.length) (c : Nat) :
    (convert src dst (.slice (some ⟨g, 0, none⟩) m c)).run P w = .ok (.string ⟨(l.take m).toArray⟩) w := by
  have hc := h.cells rfl
  have := run_convert_bytes_back (P := P) w src dst e ⟨g, 0, none⟩ c (l.take m) hs he hd (fun j hj => by
    have hj' : j < l.length := by simp at hj; omega
    refine hc j _ ?_
    simp [hj'])
  rw [List.length_take, Nat.min_eq_left hm] at this
  exact this
end
/-! ### A slice of one-cell elements that is only read -/
/-- The slice value v reads as xs; its cells lie below block B. -/
def World.reads (w : World) (B : Nat) (v : Value) (xs : List Value) : Prop :=
  ∃ a cap, v = .slice a xs.length cap ∧ (a = none → cap = 0) ∧ xs.length ≤ cap ∧ cap ≤ maxLen ∧ ∀ j u, xs[j]? = some u → ∃ b off, a = some ⟨b, off, none⟩ ∧ b < B ∧ w.cell? ⟨b, off + j, none⟩ = some u
theorem World.reads.below {w w' : World} {B : Nat} {v : Value} {xs : List Value} (h : w.reads B v xs) (hb : Below B w w') : w'.reads B v xs := by
  obtain ⟨a, cap, hv, hn, hz, hmx, hc⟩ := h
  refine ⟨a, cap, hv, hn, hz, hmx, fun j u hj => ?_⟩
  obtain ⟨b, off, ha, hB, hcell⟩ := hc j u hj
  exact ⟨b, off, ha, hB, (hb.cell (p := ⟨b, off + j, none⟩) hB).trans hcell⟩
theorem World.reads.mono {w : World} {B B' : Nat} {v : Value} {xs : List Value} (h : w.reads B v xs) (hb : B ≤ B') : w.reads B' v xs := by
  obtain ⟨a, cap, hv, hn, hz, hmx, hc⟩ := h
  refine ⟨a, cap, hv, hn, hz, hmx, fun j u hj => ?_⟩
  obtain ⟨b, off, ha, hB, hcell⟩ := hc j u hj
  exact ⟨b, off, ha, by omega, hcell⟩
theorem World.owns.reads {w : World} {base : Nat} {e : TypeId} {v : Value} {n : Nat} {xs : List Value} (h : w.owns base e 1 v n xs) : w.reads w.heap.size v xs := by
  have hl : xs.length = n := by have := h.1; omega
  rcases h.2 with ⟨h1, h2⟩ | ⟨g, cap, cur, fz, rfl, hb, hg, _, hcap, hcm, _⟩
  · have : xs = [] := List.eq_nil_of_length_eq_zero (by omega)
    subst this
    exact ⟨none, 0, h1, fun _ => rfl, Nat.le_refl _, Nat.zero_le _, fun j u hj => by simp at hj⟩
  · refine ⟨some ⟨g, 0, none⟩, cap, by rw [hl], by simp, by omega, hcm, fun j u hj => ⟨g, 0, rfl, lt_of_heap hg, ?_⟩⟩
    rw [Nat.zero_add]; exact h.cell j u hj
theorem news_alloc (w : World) (l : List Value) (e : TypeId) : ∀ j u, l[j]? = some u → (w.alloc (.cells l.toArray e)).cell? ((⟨w.heap.size, 0, none⟩ : Addr).add j) = some u := by
  intro j u hj
  have hadd : (⟨w.heap.size, 0, none⟩ : Addr).add j = ⟨w.heap.size, j, none⟩ := by unfold Addr.add; split <;> simp_all
  rw [hadd, cell_of_row _ _ _ _ _ (0, 0) (heap_alloc_new w _)]
  simpa using hj
/-- A block of another element type is not the row's. -/
theorem World.owns.ne {w : World} {base b : Nat} {e T : TypeId} {size : Nat} {v : Value} {n : Nat} {xs : List Value} {c : Array Value} {fz : Nat × Nat} (h : w.owns base e size v n xs) (hb : w.heap[b]? = some (.cells c T fz)) (hT : T ≠ e) : v.ownBlock ≠ some b := by
  intro hk
  rcases h.2 with ⟨rfl, _⟩ | ⟨g, cap, cur, fz', rfl, _, hg, _⟩
  · simp [Value.ownBlock] at hk
  · simp [Value.ownBlock] at hk
    subst hk
    rw [hb] at hg
    cases hg
    exact hT rfl
/-! ### The same laws at an operation of a region that draws its order -/
end Go

/- Slices that are read: what a walk asks of them. -/
namespace Go
open RowKit
def u32V (x : Nat) : Value := .int .u32 (x : Int)
theorem reads_shape {α : Type} {w : World} {B : Nat} {v : Value} {l : List α} {enc : α → Value} (h : w.reads B v (l.map enc)) :
    ∃ a cap, v = .slice a l.length cap ∧ l.length ≤ cap ∧ cap ≤ 9223372036854775807 ∧ ∀ j x, l[j]? = some x → ∃ b off, a = some ⟨b, off, none⟩ ∧ b < B ∧ w.cell? ⟨b, off + j, none⟩ = some (enc x) := by
  obtain ⟨a, cap, rfl, _, hz, hmx, hc⟩ := h
  exact ⟨a, cap, by simp, by simpa using hz, by unfold maxLen at hmx; exact hmx, fun j x hx => hc j _ (by simp [hx])⟩
theorem reads_u32 {w : World} {B : Nat} {v : Value} {l : List Nat} (h : w.reads B v (l.map u32V)) :
    ∃ a cap, v = .slice a l.length cap ∧ l.length ≤ cap ∧ cap ≤ 9223372036854775807 ∧ ∀ (j x : Nat), l[j]? = some x → ∃ b off, a = some ⟨b, off, none⟩ ∧ b < B ∧ w.cell? ⟨b, off + j, none⟩ = some (.int .u32 (x : Int)) := reads_shape h
theorem ret_bool {a b : Bool} (h : a = b) : Ending.returned (.bool a) = .returned (.bool b) := by rw [h]
theorem all_take_succ {α : Type} (p : α → Bool) (l : List α) (k : Nat) (x : α) (h : l[k]? = some x) : (l.take (k + 1)).all p = ((l.take k).all p && p x) := by
  rw [List.take_add_one, h]; simp
theorem reads_len {w : World} {B : Nat} {v : Value} {l : List Value} (h : w.reads B v l) : ∃ a cap, v = .slice a l.length cap := by
  obtain ⟨a, cap, rfl, _, _, _, _⟩ := h; exact ⟨a, cap, rfl⟩
theorem reads_nil (w : World) (B : Nat) : w.reads B (.slice none 0 0) [] := ⟨none, 0, rfl, fun _ => rfl, Nat.le_refl _, Nat.zero_le _, fun j u hj => by simp at hj⟩
theorem reads_block {w : World} {b B : Nat} {l : List Value} {e : TypeId} {fz : Nat × Nat} (h : w.heap[b]? = some (.cells l.toArray e fz)) (hb : b < B) (c : Nat) (hc : l.length ≤ c) (hm : c ≤ maxLen) :
    w.reads B (.slice (some ⟨b, 0, none⟩) l.length c) l := by
  refine ⟨some ⟨b, 0, none⟩, c, rfl, by simp, hc, hm, fun j u hj => ⟨b, 0, rfl, hb, ?_⟩⟩
  rw [Nat.zero_add, cell_of_row w b j l.toArray e fz h]; simpa using hj
theorem reads_alloc_new (w : World) (l : List Value) (e : TypeId) (c : Nat) (hc : l.length ≤ c) (hm : c ≤ maxLen) : (w.alloc (.cells l.toArray e)).reads (w.heap.size + 1) (.slice (some ⟨w.heap.size, 0, none⟩) l.length c) l :=
  reads_block (heap_alloc_new w _) (Nat.lt_succ_self _) c hc hm
theorem World.reads.drewN {w : World} {B : Nat} {v : Value} {xs : List Value} (h : w.reads B v xs) (n : Nat) : (w.drewN n).reads B v xs := h
theorem World.reads.drew {w : World} {B : Nat} {v : Value} {xs : List Value} (h : w.reads B v xs) : w.drew.reads B v xs := h
theorem World.reads.alloc {w : World} {B : Nat} {v : Value} {xs : List Value} (h : w.reads B v xs) (hB : B ≤ w.heap.size) (o : Obj) : (w.alloc o).reads B v xs := by
  obtain ⟨a, cap, hv, hn, hz, hmx, hc⟩ := h
  refine ⟨a, cap, hv, hn, hz, hmx, fun j u hj => ?_⟩
  obtain ⟨b, off, ha, hb, hcell⟩ := hc j u hj
  exact ⟨b, off, ha, hb, (World.cell?_alloc_lt w o ⟨b, off + j, none⟩ (show b < w.heap.size by omega)).trans hcell⟩
/-- A slice cut at its end. -/
theorem World.reads.take {w : World} {B : Nat} {a : Option Addr} {n c : Nat} {xs : List Value} (h : w.reads B (.slice a n c) xs) (k : Nat) (hk : k ≤ n) : w.reads B (.slice a k c) (xs.take k) := by
  obtain ⟨a', cap, hv, hn, hz, hmx, hc⟩ := h
  injection hv with h1 h2 h3
  subst h1 h3
  refine ⟨a, c, by rw [List.length_take, Nat.min_eq_left (by omega)], hn, by rw [List.length_take]; omega, hmx, fun j u hj => ?_⟩
  rw [List.getElem?_take] at hj
  split at hj
  · exact hc j u hj
  · cases hj
theorem World.reads.le {w : World} {B : Nat} {v : Value} {xs : List Value} (h : w.reads B v xs) : xs.length ≤ 9223372036854775807 := by
  obtain ⟨a, cap, _, _, hz, hmx, _⟩ := h
  unfold maxLen at hmx; omega
theorem World.reads.le_map {α : Type} {enc : α → Value} {w : World} {B : Nat} {v : Value} {xs : List α} (h : w.reads B v (xs.map enc)) : xs.length ≤ 9223372036854775807 := by
  have := h.le; simpa using this
/-- A slice of slices. -/
def World.rows {α : Type} (enc : α → Value) (w : World) (B : Nat) (v : Value) (rs : List (List α)) : Prop :=
  ∃ vs : List Value, vs.length = rs.length ∧ w.reads B v vs ∧ ∀ (i : Nat) (r : List α), rs[i]? = some r → ∃ u, vs[i]? = some u ∧ w.reads B u (r.map enc)
theorem World.rows.mapW {α : Type} {enc : α → Value} {w w' : World} {B B' : Nat} {v : Value} {rs : List (List α)} (h : w.rows enc B v rs) (hm : ∀ u xs, w.reads B u xs → w'.reads B' u xs) : w'.rows enc B' v rs := by
  obtain ⟨vs, hl, hr, hi⟩ := h
  exact ⟨vs, hl, hm _ _ hr, fun i r hir => by obtain ⟨u, h1, h2⟩ := hi i r hir; exact ⟨u, h1, hm _ _ h2⟩⟩
theorem World.rows.below {α : Type} {enc : α → Value} {w w' : World} {B : Nat} {v : Value} {rs : List (List α)} (h : w.rows enc B v rs) (hb : Below B w w') : w'.rows enc B v rs := h.mapW fun _ _ hr => hr.below hb
theorem World.rows.mono {α : Type} {enc : α → Value} {w : World} {B B' : Nat} {v : Value} {rs : List (List α)} (h : w.rows enc B v rs) (hb : B ≤ B') : w.rows enc B' v rs := h.mapW fun _ _ hr => hr.mono hb
theorem World.rows.le {α : Type} {enc : α → Value} {w : World} {B : Nat} {v : Value} {rs : List (List α)} (h : w.rows enc B v rs) : rs.length ≤ 9223372036854775807 := by
  obtain ⟨vs, hl, hr, _⟩ := h
  rw [← hl]; exact hr.le
/-- What a walk asks of it. -/
theorem World.rows.shape {α : Type} {enc : α → Value} {w : World} {B : Nat} {v : Value} {rs : List (List α)} (h : w.rows enc B v rs) :
    ∃ a cap, v = .slice a rs.length cap ∧ rs.length ≤ cap ∧ cap ≤ 9223372036854775807 ∧ ∀ (j : Nat) (r : List α), rs[j]? = some r → ∃ b off b2 c2, a = some ⟨b, off, none⟩ ∧ b < B ∧ w.cell? ⟨b, off + j, none⟩ = some (.slice b2 r.length c2) ∧ w.reads B (.slice b2 r.length c2) (r.map enc) := by
  obtain ⟨vs, hl, hr, hi⟩ := h
  obtain ⟨a, cap, rfl, _, hz, hmx, hc⟩ := hr
  refine ⟨a, cap, by rw [hl], by omega, by unfold maxLen at hmx; exact hmx, fun j r hj => ?_⟩
  obtain ⟨u, hu, hur⟩ := hi j r hj
  obtain ⟨b, off, ha, hb, hcell⟩ := hc j u hu
  obtain ⟨b2, c2, rfl, _⟩ := reads_shape hur
  exact ⟨b, off, b2, c2, ha, hb, hcell, hur⟩
end Go

/- Iterators over numbered elements: prefixes; blocks that a round keeps. -/
namespace Go
open RowKit
/-- The blocks of a set are kept. -/
def KeepP (S : Nat → Prop) (W W' : World) : Prop := ∀ b, S b → W'.heap[b]? = W.heap[b]?
theorem KeepP.refl {S : Nat → Prop} (W : World) : KeepP S W W := fun _ _ => rfl
theorem KeepP.trans {S : Nat → Prop} {A B C : World} (h : KeepP S A B) (k : KeepP S B C) : KeepP S A C := fun b hb => (k b hb).trans (h b hb)
theorem KeepP.cell {S : Nat → Prop} {W W' : World} (h : KeepP S W W') {b o : Nat} (hb : S b) : W'.cell? ⟨b, o, none⟩ = W.cell? ⟨b, o, none⟩ := World.cell?_of_block (a := ⟨b, o, none⟩) (h b hb)
theorem KeepP.below {S : Nat → Prop} {B : Nat} {W W' : World} (h : Below B W W') (hS : ∀ b, S b → b < B) : KeepP S W W' := fun b hb => h.block b (hS b hb)
theorem KeepP.alloc {S : Nat → Prop} {W W' : World} (h : KeepP S W W') (hS : ∀ b, S b → b < W'.heap.size) (o : Obj) : KeepP S W (W'.alloc o) := fun b hb => (Below.heap_alloc W' o b (hS b hb)).trans (h b hb)
theorem KeepP.setCell {S : Nat → Prop} {W W' : World} (h : KeepP S W W') {a : Addr} (ha : ¬ S a.block) (u : Value) : KeepP S W (W'.setCell a u) := fun b hb => (Below.heap_setCell W' a u b (fun e => ha (e ▸ hb))).trans (h b hb)
theorem KeepP.drewN {S : Nat → Prop} {W W' : World} (h : KeepP S W W') (n : Nat) : KeepP S W (W'.drewN n) := h
theorem KeepP.drew {S : Nat → Prop} {W W' : World} (h : KeepP S W W') : KeepP S W W'.drew := h
theorem KeepP.grown {S : Nat → Prop} {W W' W2 : World} {row : Option Nat} (h : KeepP S W W') (hg : W'.grownBy W2 row) (hS : ∀ b, S b → b < W'.heap.size) (hr : ∀ r, row = some r → ¬ S r) : KeepP S W W2 :=
  fun b hb => (hg.block b (hS b hb) (fun e => hr b e.symm hb)).trans (h b hb)
theorem KeepP.reads {S : Nat → Prop} {W W' : World} {B : Nat} {v : Value} {xs : List Value} (h : KeepP S W W') (hr : W.reads B v xs) (hS : ∀ a n c b off, v = .slice a n c → a = some ⟨b, off, none⟩ → S b) : W'.reads B v xs := by
  obtain ⟨a, cap, hv, hn, hz, hmx, hc⟩ := hr
  refine ⟨a, cap, hv, hn, hz, hmx, fun j u hj => ?_⟩
  obtain ⟨b, off, ha, hb, hcell⟩ := hc j u hj
  exact ⟨b, off, ha, hb, (h.cell (hS _ _ _ _ _ hv ha)).trans hcell⟩
/-! ### A region that draws its order and only reads, within a round -/
theorem grownBy_trans {a b c : World} {row : Option Nat} (h : a.grownBy b row) (k : b.grownBy c row) : a.grownBy c row :=
  ⟨k.os.trans h.os, k.tape.trans h.tape, k.output.trans h.output, Nat.le_trans h.size k.size, fun i hi hne => (k.block i (Nat.lt_of_lt_of_le hi h.size) hne).trans (h.block i hi hne)⟩
/-! ### append of one element, which the statement lays into a block of its own -/
section
variable {P : Program} (W : World)
theorem wpList_append1 {ops : Array Oper} {rest : List Oper} {o : Oper} {a : Act} {Q : Exit → Act → World → Prop} (hg : o.guard = none) (s x : Operand) (t : TypeId)
    (hop : o.op = .call { callee := .builtin .append, args := #[s, x], argTypes := #[t, t] })
    (base : Nat) (e : TypeId) (i : TypeInfo) (z : Value) (bytes : Nat) (ht : P.underlying t = some (.slice e)) (hi : P.info? e = some i) (hz : i.zero = some z)
    (hsize : i.size = 1) (hby : i.bytes = bytes) (hzs : z.cells.size = 1)
    (v : Value) (n : Nat) (xs : List Value) (hs : a.eval s = v) (hown : W.owns base e 1 v n xs) (u : Value) (H : Nat) (hH : W.heap.size = H) (hx : a.eval x = .slice (some ⟨H, 0, none⟩) 1 1) (h1 : u.oneCell' = true)
    (h63 : n + 1 ≤ maxLen) (hbytes : (n + 1) * bytes ≤ 140737488355328) (hbase : base ≤ W.heap.size)
    (h : ∀ v' w', w'.owns base e 1 v' (n + 1) (xs ++ [u]) → (W.alloc (.cells #[u] e)).grownBy w' v.ownBlock → W.grownBy w' v.ownBlock → W.heap.size < w'.heap.size → wpList P ops Q rest (a.put o.dst v') w') : wpList P ops Q (o :: rest) a (W.alloc (.cells #[u] e)) := by
  subst hH
  refine wpList_plain hg fun K hK' => ?_
  obtain ⟨v', w', hrun, h2, h3, _⟩ := run_append_owns (P := P) (W.alloc (.cells #[u] e)) base t o.type e i z 1 bytes ht hi hz hsize hby hzs (by decide) v n xs (hown.alloc _) ⟨W.heap.size, 0, none⟩ 1 1 [u] rfl (news_alloc W [u] e) (by simpa using h1) h63 hbytes (by simp; omega)
  unfold Oper.wp execOp
  simp only [hop, resolve, invoke, builtin, Sem.run_bind, Sem.run_pure, Result.andThen_ok, List.map_toArray, List.map_cons, List.map_nil, hs, hx, hrun]
  exact hK' _ _ (h v' w' h2 h3 (grownBy_trans (World.grownBy_alloc W _ _) h3) (by have := h3.size; simp at this; omega))
end
end Go

/- A region that draws its order, reads and at its end stores, within a round. -/
namespace Go
open RowKit
/-- The last operation waits for all others. -/
def lastB (ops : Array Oper) (L : Nat) : Bool := (List.range L).all fun i => ((ops[L]?).map fun o => o.after.any fun e => Region.binds .any e && e.on == i).getD false
theorem yielded_congr {ops ops' : Array Oper} (hd : ∀ i : Nat, (ops[i]?).bind (·.dst) = (ops'[i]?).bind (·.dst)) (t : Array Value) : yielded ops t = yielded ops' t := by
  funext j; unfold yielded; rw [hd]
end Go

/- append of a slice that reads as a list, nil or not, to a row that is owned. -/
namespace Go
open RowKit
section
variable {P : Program} (w : World)
theorem run_append_none (base : Nat) (t ty e : TypeId) (i : TypeInfo) (ht : P.underlying t = some (.slice e)) (hi : P.info? e = some i)
    (v : Value) (n : Nat) (xs : List Value) (hown : w.owns base e 1 v n xs) (c : Nat) : (Builtin.append_ #[t, t] ty #[v, .slice none 0 c]).run P w = .ok v w := by
  rcases hown.2 with ⟨rfl, rfl⟩ | ⟨g, cap, cur, fz, rfl, _, _, _, hnc, _⟩
  · simp [Builtin.append_, run_underlying ht, sizeOf, typeInfo, hi, Builtin.lenOf, Builtin.firstCells]
  · simp [Builtin.append_, run_underlying ht, sizeOf, typeInfo, hi, Builtin.lenOf, Builtin.firstCells, hnc, storeCells]
theorem run_append_reads (base : Nat) (t ty e : TypeId) (i : TypeInfo) (z : Value) (bytes : Nat) (ht : P.underlying t = some (.slice e)) (hi : P.info? e = some i) (hz : i.zero = some z)
    (hsize : i.size = 1) (hby : i.bytes = bytes) (hzs : z.cells.size = 1)
    (v : Value) (n : Nat) (xs : List Value) (hown : w.owns base e 1 v n xs)
    (B : Nat) (x : Value) (news : List Value) (hr : w.reads B x news) (h1 : ∀ u ∈ news, u.oneCell' = true)
    (h63 : n + news.length ≤ maxLen) (hbytes : (n + news.length) * bytes ≤ 140737488355328) (hbase : base ≤ w.heap.size) :
    ∃ v' w', (Builtin.append_ #[t, t] ty #[v, x]).run P w = .ok v' w' ∧ w'.owns base e 1 v' (n + news.length) (xs ++ news) ∧ w.grownBy w' v.ownBlock := by
  obtain ⟨a, cap, rfl, hn, hz1, hmx, hc⟩ := hr
  cases a with
  | none =>
    have hcap := hn rfl
    have hn0 : news.length = 0 := by omega
    have : news = [] := List.eq_nil_of_length_eq_zero hn0
    subst this
    exact ⟨v, w, run_append_none w base t ty e i ht hi v n xs hown cap, by simpa using hown, World.grownBy.refl w _⟩
  | some ad =>
    have hcells : ∀ j u, news[j]? = some u → w.cell? (ad.add j) = some u := by
      intro j u hj
      obtain ⟨b, off, ha, _, h4⟩ := hc j u hj
      injection ha with ha
      subst ha
      have : (⟨b, off, none⟩ : Addr).add j = ⟨b, off + j, none⟩ := by unfold Addr.add; split <;> simp_all
      rw [this]; exact h4
    obtain ⟨v', w', hrun, h2, h3, _⟩ := run_append_owns (P := P) w base t ty e i z 1 bytes ht hi hz hsize hby hzs (by decide) v n xs hown ad news.length cap news (by simp) hcells h1 h63 hbytes hbase
    exact ⟨v', w', hrun, h2, h3⟩
theorem wpList_append_reads {ops : Array Oper} {rest : List Oper} {o : Oper} {a : Act} {Q : Exit → Act → World → Prop} (hgd : o.guard = none) (s x : Operand) (t : TypeId)
    (ho : o.op = .call { callee := .builtin .append, args := #[s, x], argTypes := #[t, t] })
    (base : Nat) (e : TypeId) (i : TypeInfo) (z : Value) (bytes : Nat) (ht : P.underlying t = some (.slice e)) (hi : P.info? e = some i) (hz : i.zero = some z)
    (hsize : i.size = 1) (hby : i.bytes = bytes) (hzs : z.cells.size = 1)
    (v : Value) (n : Nat) (xs : List Value) (hs : a.eval s = v) (hown : w.owns base e 1 v n xs)
    (B : Nat) (xv : Value) (news : List Value) (hx : a.eval x = xv) (hr : w.reads B xv news) (h1 : ∀ u ∈ news, u.oneCell' = true)
    (h63 : n + news.length ≤ maxLen) (hbytes : (n + news.length) * bytes ≤ 140737488355328) (hbase : base ≤ w.heap.size)
    (h : ∀ v' w', w'.owns base e 1 v' (n + news.length) (xs ++ news) → w.grownBy w' v.ownBlock → wpList P ops Q rest (a.put o.dst v') w') : wpList P ops Q (o :: rest) a w := by
  refine wpList_plain hgd fun K hK => ?_
  obtain ⟨v', w', hrun, h2, h3⟩ := run_append_reads (P := P) w base t o.type e i z bytes ht hi hz hsize hby hzs v n xs hown B xv news hr h1 h63 hbytes hbase
  unfold Oper.wp execOp
  simp only [ho, resolve, invoke, builtin, Sem.run_bind, Sem.run_pure, Result.andThen_ok, List.map_toArray, List.map_cons, List.map_nil, hs, hx, hrun]
  exact hK _ _ (h v' w' h2 h3)
end
theorem below_grown {w w' : World} {base : Nat} {e : TypeId} {v : Value} {n : Nat} {xs : List Value} {size : Nat} (h : w.owns base e size v n xs) (hg : w.grownBy w' v.ownBlock) (B : Nat) (hB : B ≤ base) (hBs : B ≤ w.heap.size) : Below B w w' :=
  ⟨hg.os, hg.tape, hg.output, hg.size, fun i hi => hg.block i (by omega) (fun e => by have := (h.lt i e.symm).1; omega)⟩
end Go

/- Rows that a function makes and appends to a list of its own. -/
namespace Go
open RowKit
/-- A slice that is owned, of slices that are owned. -/
def World.rowsO {α : Type} (enc : α → Value) (w : World) (base : Nat) (T e : TypeId) (v : Value) (rows : List (List α)) : Prop :=
  ∃ vs : List Value, vs.length = rows.length ∧ w.owns base T 1 v rows.length vs ∧ ∀ (i : Nat) (r : List α), rows[i]? = some r → ∃ u, vs[i]? = some u ∧ w.owns base e 1 u r.length (r.map enc)
section
variable {α : Type} {enc : α → Value} {w w' : World} {base base' : Nat} {T e : TypeId} {v : Value} {rs : List (List α)}
theorem World.rowsO.below (h : w.rowsO enc base T e v rs) (hb : Below w.heap.size w w') : w'.rowsO enc base T e v rs := by
  obtain ⟨vs, h1, h2, h3⟩ := h
  exact ⟨vs, h1, h2.below hb, fun i r hr => by obtain ⟨u, k1, k2⟩ := h3 i r hr; exact ⟨u, k1, k2.below hb⟩⟩
theorem World.rowsO.drewN (h : w.rowsO enc base T e v rs) (n : Nat) : (w.drewN n).rowsO enc base T e v rs := h
theorem World.rowsO.mono (h : w.rowsO enc base T e v rs) (hb : base' ≤ base) : w.rowsO enc base' T e v rs := by
  obtain ⟨vs, h1, h2, h3⟩ := h
  exact ⟨vs, h1, h2.mono hb, fun i r hr => by obtain ⟨u, k1, k2⟩ := h3 i r hr; exact ⟨u, k1, k2.mono hb⟩⟩
theorem World.rowsO.setCell (h : w.rowsO enc base T e v rs) {a : Addr} (ha : a.block < base) (x : Value) : (w.setCell a x).rowsO enc base T e v rs := by
  obtain ⟨vs, h1, h2, h3⟩ := h
  exact ⟨vs, h1, h2.setCell ha x, fun i r hr => by obtain ⟨u, k1, k2⟩ := h3 i r hr; exact ⟨u, k1, k2.setCell ha x⟩⟩
theorem World.rowsO.rows (h : w.rowsO enc base T e v rs) : w.rows enc w.heap.size v rs := by
  obtain ⟨vs, h1, h2, h3⟩ := h
  exact ⟨vs, h1, h2.reads, fun i r hr => by obtain ⟨u, k1, k2⟩ := h3 i r hr; exact ⟨u, k1, k2.reads⟩⟩
theorem World.rowsO.open_ (h : w.rowsO enc base T e v rs) : ∃ a c, v = .slice a rs.length c := by
  obtain ⟨vs, h1, h2, _⟩ := h
  obtain ⟨a, c, hv⟩ := reads_len h2.reads
  exact ⟨a, c, by rw [hv, h1]⟩
/-- One more row. -/
theorem World.rowsO.push (hT : T ≠ e) (h : w.rowsO enc base T e v rs) {u v4 : Value} {W4 : World} {r : List α} (hu : w.owns base e 1 u r.length (r.map enc))
    (hown4 : ∀ vs, w.owns base T 1 v rs.length vs → W4.owns base T 1 v4 (rs.length + 1) (vs ++ [u])) (hg : w.grownBy W4 v.ownBlock) : W4.rowsO enc base T e v4 (rs ++ [r]) := by
  obtain ⟨vs, h1, h2, h3⟩ := h
  have hk : ∀ {n : Nat} {x : Value} {xs : List Value}, w.owns base e 1 x n xs → W4.owns base e 1 x n xs := by
    intro n x xs hx
    refine hx.kept hg ?_
    rcases h2.2 with ⟨rfl, _⟩ | ⟨g, cap, cur, fz, rfl, _, hgg, _⟩
    · cases hxo : x.ownBlock
      · exact .inl rfl
      · exact .inr (by simp [Value.ownBlock])
    · exact .inr (hx.ne hgg hT)
  refine ⟨vs ++ [u], by simp [h1], by simpa using hown4 vs h2, fun i y hj => ?_⟩
  rcases Nat.lt_trichotomy i rs.length with hlt | rfl | hgt
  · rw [List.getElem?_append_left hlt] at hj
    obtain ⟨u', k1, k2⟩ := h3 i y hj
    exact ⟨u', by rw [List.getElem?_append_left (by rw [h1]; exact hlt)]; exact k1, hk k2⟩
  · rw [List.getElem?_append_right (Nat.le_refl _)] at hj
    simp at hj
    subst hj
    exact ⟨u, by rw [← h1, List.getElem?_append_right (Nat.le_refl _)]; simp, hk hu⟩
  · rw [List.getElem?_append_right (by omega)] at hj
    have : i - rs.length ≠ 0 := by omega
    obtain ⟨m, hm⟩ := Nat.exists_eq_succ_of_ne_zero this
    rw [hm] at hj
    simp at hj
end
theorem World.owns.at_ {w : World} {base n : Nat} {e : TypeId} {v : Value} {xs : List Value} (h : w.owns base e 1 v n xs) : ∃ a c, v = .slice a n c ∧ n ≤ c ∧ c ≤ 9223372036854775807 ∧
    ∀ (k : Nat) (x : Value), xs[k]? = some x → ∃ b, a = some ⟨b, 0, none⟩ ∧ base ≤ b ∧ b < w.heap.size ∧ w.cell? ⟨b, k, none⟩ = some x := by
  have h' := h
  rcases h.2 with ⟨rfl, rfl⟩ | ⟨g, cap, cur, fz, rfl, hbg, hg, _, hnc, hcm, _⟩
  · have : xs = [] := List.eq_nil_of_length_eq_zero (by simpa using h.1)
    subst this
    exact ⟨none, 0, rfl, Nat.le_refl _, Nat.zero_le _, fun k x hk => by simp at hk⟩
  · exact ⟨_, cap, rfl, hnc, by unfold maxLen at hcm; exact hcm, fun k x hk => ⟨g, rfl, hbg, lt_of_heap hg, h'.cell k x hk⟩⟩
theorem World.rowsO.shape {α : Type} {enc : α → Value} {w : World} {base : Nat} {T e : TypeId} {v : Value} {rs : List (List α)} (h : w.rowsO enc base T e v rs) :
    ∃ a c, v = .slice a rs.length c ∧ rs.length ≤ c ∧ c ≤ 9223372036854775807 ∧ ∀ (j : Nat) (r : List α), rs[j]? = some r → ∃ b b2 c2, a = some ⟨b, 0, none⟩ ∧ base ≤ b ∧ b < w.heap.size ∧ w.cell? ⟨b, j, none⟩ = some (.slice b2 r.length c2) ∧ r.length ≤ c2 ∧ c2 ≤ 9223372036854775807 ∧
      ∀ (k : Nat) (x : α), r[k]? = some x → ∃ eb, b2 = some ⟨eb, 0, none⟩ ∧ base ≤ eb ∧ eb < w.heap.size ∧ w.cell? ⟨eb, k, none⟩ = some (enc x) := by
  obtain ⟨vs, h1, h2, h3⟩ := h
  obtain ⟨a, c, hv, q1, q2, q3⟩ := h2.at_
  refine ⟨a, c, hv, q1, q2, fun j r hj => ?_⟩
  obtain ⟨u, hu, hown⟩ := h3 j r hj
  obtain ⟨b, p1, p2, p3, p4⟩ := q3 j u hu
  obtain ⟨b2, c2, rfl, r1, r2, r3⟩ := hown.at_
  exact ⟨b, b2, c2, p1, p2, p3, p4, r1, r2, fun k x hk => r3 k (enc x) (by simp [hk])⟩
section
variable {P : Program} {W : World} {ops : Array Oper} {rest : List Oper} {o : Oper} {a : Act} {Q : Exit → Act → World → Prop}
theorem below_own {base n : Nat} {e : TypeId} {v : Value} {xs : List Value} {W4 : World} (h : W.owns base e 1 v n xs) (hg : W.grownBy W4 v.ownBlock) : ∀ B0 w0, Below B0 w0 W → B0 ≤ base → B0 ≤ W.heap.size → Below B0 w0 W4 :=
  fun B0 _ hB h1 h2 => hB.grown hg h2 (fun k hk => by have := (h.lt k hk).1; omega)
/-- append to a row that is owned: where the new row lies. -/
theorem run_append_fresh (w : World) (base : Nat) (t ty e : TypeId) (i : TypeInfo) (z : Value) (bytes : Nat) (ht : P.underlying t = some (.slice e)) (hi : P.info? e = some i) (hz : i.zero = some z)
    (hsize : i.size = 1) (hby : i.bytes = bytes) (hzs : z.cells.size = 1)
    (v : Value) (n : Nat) (xs : List Value) (hown : w.owns base e 1 v n xs)
    (a : Addr) (m c : Nat) (news : List Value) (hl : news.length = m) (hnews : ∀ j u, news[j]? = some u → w.cell? (a.add j) = some u) (h1 : ∀ u ∈ news, u.oneCell' = true)
    (h63 : n + m ≤ maxLen) (hbytes : (n + m) * bytes ≤ 140737488355328) (hbase : base ≤ w.heap.size) :
    ∃ v' w', (Builtin.append_ #[t, t] ty #[v, .slice (some a) m c]).run P w = .ok v' w' ∧ w'.owns base e 1 v' (n + m) (xs ++ news) ∧ w.grownBy w' v.ownBlock ∧ (v'.ownBlock = v.ownBlock ∨ ∀ k, v'.ownBlock = some k → w.heap.size ≤ k) := by
  rcases hown.2 with ⟨rfl, rfl⟩ | ⟨g, cap, cur, fz, rfl, hbg, hg, hfz, hnc, hcm, hcs, htake⟩
  · have hxs : xs = [] := List.eq_nil_of_length_eq_zero (by simpa using hown.1)
    subst hxs
    obtain ⟨v', w', h1, h2, h3, h4⟩ := run_append_owns (P := P) w w.heap.size t ty e i z 1 bytes ht hi hz hsize hby hzs (by decide) (.slice none 0 0) 0 [] (World.owns_nil _ _ _ _) a m c news (by simpa using hl) hnews h1 h63 hbytes (Nat.le_refl _)
    exact ⟨v', w', h1, h2.mono hbase, h3, .inr (fun k hk => (h2.lt k hk).1)⟩
  · subst hby
    have hsmall : n + m ≤ 9223372036854775807 := by simp only [maxLen] at h63; omega
    by_cases hroom : n + m ≤ cap
    · have hfit : n * i.size + news.length ≤ cur.size := by rw [hsize]; omega
      have hr := run_append_room_fz (P := P) w t ty e i ht hi g n cap cur fz hg hfz a m c news (by rw [hsize]; omega) hnews h1 hroom hfit
      obtain ⟨v', w', k1, k2, k3, k4⟩ := run_append_owns (P := P) w base t ty e i z 1 i.bytes ht hi hz hsize rfl hzs (by decide) _ n xs hown a m c news (by simpa using hl) hnews h1 h63 hbytes hbase
      refine ⟨v', w', k1, k2, k3, .inl ?_⟩
      rw [hr] at k1
      injection k1 with e1 _
      rw [← e1]; rfl
    · have holds : ∀ j u, xs[j]? = some u → w.cell? ((⟨g, 0, none⟩ : Addr).add j) = some u := hown.cells (g := g) rfl
      have hr := run_append_grow (P := P) w t ty e i z ht hi hz ⟨g, 0, none⟩ n cap xs (by rw [hsize]; exact hown.1) holds a m c news (by rw [hsize]; omega) hnews (by omega) (by omega) (growslice_fits (by omega) hbytes)
      obtain ⟨v', w', k1, k2, k3, k4⟩ := run_append_owns (P := P) w base t ty e i z 1 i.bytes ht hi hz hsize rfl hzs (by decide) _ n xs hown a m c news (by simpa using hl) hnews h1 h63 hbytes hbase
      refine ⟨v', w', k1, k2, k3, .inr fun k hk => ?_⟩
      rw [hr] at k1
      injection k1 with e1 _
      rw [← e1] at hk
      simp [Value.ownBlock] at hk
      omega
/-- The append of one element. -/
theorem wpList_push1 (hg : o.guard = none) (s x : Operand) (t : TypeId)
    (hop : o.op = .call { callee := .builtin .append, args := #[s, x], argTypes := #[t, t] })
    (base : Nat) (e : TypeId) (i : TypeInfo) (z : Value) (bytes : Nat) (ht : P.underlying t = some (.slice e)) (hi : P.info? e = some i) (hz : i.zero = some z)
    (hsize : i.size = 1) (hby : i.bytes = bytes) (hzs : z.cells.size = 1)
    (v : Value) (n : Nat) (xs : List Value) (hs : a.eval s = v) (hown : W.owns base e 1 v n xs) (u : Value) (H : Nat) (hH : W.heap.size = H) (hx : a.eval x = .slice (some ⟨H, 0, none⟩) 1 1) (h1 : u.oneCell' = true)
    (h63 : n + 1 ≤ maxLen) (hbytes : (n + 1) * bytes ≤ 140737488355328) (hbase : base ≤ W.heap.size)
    (h : ∀ v' w', w'.owns base e 1 v' (n + 1) (xs ++ [u]) → W.heap.size < w'.heap.size → (∀ B0 w0, Below B0 w0 W → B0 ≤ base → Below B0 w0 w') → wpList P ops Q rest (a.put o.dst v') w') : wpList P ops Q (o :: rest) a (W.alloc (.cells #[u] e)) :=
  wpList_append1 W hg s x t hop base e i z bytes ht hi hz hsize hby hzs v n xs hs hown u H hH hx h1 h63 hbytes hbase
    fun v' w' h2 _ h4 h5 => h v' w' h2 h5 (fun B0 w0 hB hb => below_own hown h4 B0 w0 hB hb (by omega))
theorem step_append_reads {w : World} {K : Act → World → Prop} {E : Prop} (hgd : o.guard = none) (s x : Operand) (t : TypeId)
    (ho : o.op = .call { callee := .builtin .append, args := #[s, x], argTypes := #[t, t] })
    (base : Nat) (e : TypeId) (i : TypeInfo) (z : Value) (bytes : Nat) (ht : P.underlying t = some (.slice e)) (hi : P.info? e = some i) (hz : i.zero = some z)
    (hsize : i.size = 1) (hby : i.bytes = bytes) (hzs : z.cells.size = 1)
    (v : Value) (n : Nat) (xs : List Value) (hs : a.eval s = v) (hown : w.owns base e 1 v n xs)
    (B : Nat) (xv : Value) (news : List Value) (hx : a.eval x = xv) (hr : w.reads B xv news) (h1 : ∀ u ∈ news, u.oneCell' = true)
    (h63 : n + news.length ≤ maxLen) (hbytes : (n + news.length) * bytes ≤ 140737488355328) (hbase : base ≤ w.heap.size)
    (h : ∀ v' w', w'.owns base e 1 v' (n + news.length) (xs ++ news) → w.grownBy w' v.ownBlock → K (a.put o.dst v') w') :
    if Region.wanted o (yielded ops a.tmps) = true then Oper.wp P o a w K Q else E := by
  have hw : Region.wanted o (yielded ops a.tmps) = true := by simp [Region.wanted, hgd]
  rw [if_pos hw]
  obtain ⟨v', w', hrun, h2, h3⟩ := run_append_reads (P := P) w base t o.type e i z bytes ht hi hz hsize hby hzs v n xs hown B xv news hr h1 h63 hbytes hbase
  unfold Oper.wp execOp
  simp only [ho, resolve, invoke, builtin, Sem.run_bind, Sem.run_pure, Result.andThen_ok, List.map_toArray, List.map_cons, List.map_nil, hs, hx, hrun]
  exact h v' w' h2 h3
end
end Go

/- A row of an owned slice of rows is replaced. -/
namespace Go
open RowKit
theorem World.owns.setOwn {w : World} {base g n c m : Nat} {T : TypeId} {xs : List Value} (h : w.owns base T 1 (.slice (some ⟨g, 0, none⟩) n c) m xs) (k : Nat) (u : Value) :
    (w.setCell ⟨g, k, none⟩ u).owns base T 1 (.slice (some ⟨g, 0, none⟩) n c) m (xs.set k u) := by
  obtain ⟨h1, h2⟩ := h
  refine ⟨by simpa using h1, ?_⟩
  rcases h2 with ⟨e, _⟩ | ⟨g', cap, cur, fz, e, hb, hg, hf, hn, hm, hs, ht⟩
  · cases e
  · injection e with e1 e2 e3
    injection e1 with e1
    injection e1 with e1
    subst e1 e2 e3
    refine .inr ⟨g, c, cur.setIfInBounds k u, fz, rfl, hb, ?_, by simpa using hf, hn, hm, by simpa using hs, ?_⟩
    · simp [World.setCell, Array.getElem?_modify, hg]
    · rw [Array.toList_setIfInBounds, List.take_set, ht]
theorem World.rowsO.set {α : Type} {enc : α → Value} {w : World} {base g n c : Nat} {T e : TypeId} {rs : List (List α)} (hT : T ≠ e) (h : w.rowsO enc base T e (.slice (some ⟨g, 0, none⟩) n c) rs) (k : Nat) {u : Value} {r : List α} (hu : w.owns base e 1 u r.length (r.map enc)) :
    (w.setCell ⟨g, k, none⟩ u).rowsO enc base T e (.slice (some ⟨g, 0, none⟩) n c) (rs.set k r) := by
  obtain ⟨vs, h1, h2, h3⟩ := h
  have hgb : ∃ cur fz, w.heap[g]? = some (.cells cur T fz) := by
    rcases h2.2 with ⟨e, _⟩ | ⟨g', cap, cur, fz, e, _, hg, _⟩
    · cases e
    · injection e with e1 _ _
      injection e1 with e1
      injection e1 with e1
      subst e1
      exact ⟨cur, fz, hg⟩
  obtain ⟨cur, fz, hg⟩ := hgb
  refine ⟨vs.set k u, by simp [h1], by simpa using h2.setOwn k u, fun i y hy => ?_⟩
  rw [List.getElem?_set] at hy
  by_cases hik : k = i
  · subst hik
    rw [if_pos rfl] at hy
    split at hy
    · rename_i hlt
      obtain rfl : r = y := by injection hy
      exact ⟨u, by rw [List.getElem?_set, if_pos rfl, if_pos (by rw [h1]; exact hlt)], hu.setCell_ne (a := ⟨g, k, none⟩) (hu.ne hg hT) u⟩
    · cases hy
  · rw [if_neg hik] at hy
    obtain ⟨v, hv, hown⟩ := h3 i y hy
    exact ⟨v, by rw [List.getElem?_set, if_neg hik]; exact hv, hown.setCell_ne (a := ⟨g, k, none⟩) (hown.ne hg hT) u⟩
end Go

/- A region that draws its order, whose operations come one behind the other once what only reads is taken first, and whose last one stores. -/
namespace Go
open RowKit
section
variable {P : Program} {ops : Array Oper} {Q : Exit → Act → World → Prop} {S : World → Prop} {L : Nat}
/-- As in a held region; behind the operation L nothing is asked. -/
def wpAnyT (P : Program) (ops : Array Oper) (Q : Exit → Act → World → Prop) (S : World → Prop) (L : Nat) : Nat → Array Bool → Act → World → Prop
  | 0, listed, a, w => Region.ready .any ops listed = [] ∧ Q .normal a w
  | fuel + 1, listed, a, w =>
    (Region.ready .any ops listed = [] → Q .normal a w) ∧
    ∀ i ∈ Region.ready .any ops listed, wpOp P ops Q i (fun a' w' => (i ≠ L → S w') ∧ wpAnyT P ops Q S L fuel (listed.setIfInBounds i true) a' w') a w
theorem wpAny_of_T : ∀ (fuel : Nat) (listed : Array Bool) (a : Act) (w : World), wpAnyT P ops Q S L fuel listed a w → wpAny P .any ops Q fuel listed a w
  | 0, _, _, _, h => h
  | fuel + 1, _, _, _, h => ⟨h.1, fun i hi => wpOp_mono (fun a' w' h' => wpAny_of_T fuel _ a' w' h'.2) (h.2 i hi)⟩
theorem last_listed {i : Nat} {listed : Array Bool} (hlast : lastB ops L = true) (hi : i < L) (hr : L ∈ Region.ready .any ops listed) : listed.getD i false = true := by
  rw [mem_ready] at hr
  obtain ⟨-, oL, hoL, h3⟩ := hr
  unfold lastB at hlast
  rw [List.all_eq_true] at hlast
  have h4 := hlast i (List.mem_range.2 hi)
  rw [hoL, Option.map_some, Option.getD_some, Array.any_eq_true] at h4
  obtain ⟨k, hk, h5⟩ := h4
  rw [Bool.and_eq_true] at h5
  have h6 := h3 _ (Array.getElem_mem hk) h5.1
  rw [beq_iff_eq.1 h5.2] at h6
  exact h6
theorem unlisted_not {i : Nat} {listed : Array Bool} (h1 : listed.getD i true = false) (h2 : listed.getD i false = true) : False := by
  rcases Nat.lt_or_ge i listed.size with h | h
  · simp [h] at h1 h2; rw [h1] at h2; cases h2
  · simp [Array.getElem?_eq_none h] at h1
theorem wpAnyT_first {i : Nat} {oi : Oper} {v : Value} (hL : ops.size = L + 1) (hlast : lastB ops L = true) (hiL : i < L) (hi : ops[i]? = some oi) (hsel : ∀ (j : Nat) (o : Oper) cs b, ops[j]? = some o → o.op ≠ .select cs b)
    (hQ : ∀ c a w, Q (.panic c) (a.put oi.dst v) w → Q (.panic c) a w) :
    ∀ (fuel : Nat) (listed : Array Bool) (a : Act) (w : World),
      (∀ j oj, ops[j]? = some oj → j ≠ i → listed.getD j true = false → (∀ e ∈ oj.after, Region.binds .any e = true → e.on ≠ i) → oi.apart ops oj = true) →
      i ∈ Region.ready .any ops listed → YieldsIf P ops S oi v a → S w →
      wpAnyT P ops Q S L fuel (listed.setIfInBounds i true) (a.put oi.dst v) w → wpAnyT P ops Q S L (fuel + 1) listed a w := by
  intro fuel
  induction fuel with
  | zero =>
    intro listed a w _ hr hy hS H
    refine ⟨fun h => (by rw [h] at hr; cases hr), fun j hj => ?_⟩
    by_cases hji : j = i
    · subst hji; exact hy.wpOp hi hS ⟨fun _ => hS, H⟩
    · have := ready_mono hj hji
      rw [H.1] at this
      cases this
  | succ fuel ih =>
    intro listed a w hfree hr hy hS H
    refine ⟨fun h => (by rw [h] at hr; cases hr), fun j hj => ?_⟩
    by_cases hji : j = i
    · subst hji; exact hy.wpOp hi hS ⟨fun _ => hS, H⟩
    · have hjL : j ≠ L := by
        rintro rfl
        exact unlisted_not (mem_ready.1 hr).1 (last_listed hlast hiL hj)
      have h1 := H.2 j (ready_mono hj hji)
      obtain ⟨hjun, oj, hoj, hall⟩ := mem_ready.1 hj
      have hnot : ∀ e ∈ oj.after, Region.binds .any e = true → e.on ≠ i := fun e he hb heq => by
        have h1 := hall e he hb
        rw [heq] at h1
        exact unlisted_not (mem_ready.1 hr).1 h1
      have h2 := wpOp_putIf hoj (hfree j oj hoj hji hjun hnot) (fun cs b => hsel i oi cs b hi) (fun cs b => hsel j oj cs b hoj) hQ hy h1
      have hfree' : ∀ k ok, ops[k]? = some ok → k ≠ i → (listed.setIfInBounds j true).getD k true = false →
          (∀ e ∈ ok.after, Region.binds .any e = true → e.on ≠ i) → oi.apart ops ok = true := fun k ok hk hki hun hno => by
        refine hfree k ok hk hki ?_ hno
        by_cases hjk : j = k
        · subst hjk; exact hjun
        · rw [getD_set_ne true hjk] at hun; exact hun
      refine wpOp_mono (fun a' w' h3 => ⟨h3.2.1, ih (listed.setIfInBounds j true) a' w' hfree' (ready_mono hr (Ne.symm hji)) h3.1 (h3.2.1 hjL) ?_⟩) h2
      rw [Array.setIfInBounds_comm _ _ hji]
      exact h3.2.2
theorem wpAnyT_take (i : Nat) {oi : Oper} {v : Value} {fuel : Nat} {listed : Array Bool} {a : Act} {w : World} (hr : (Region.ready .any ops listed).contains i = true) (hL : ops.size = L + 1) (hlast : lastB ops L = true) (hiL : i < L) (hi : ops.toList[i]? = some oi)
    (hs : Region.noSelect ops = true) (hf : Region.free .any ops listed i = true)
    (hQ : ∀ c a w, Q (.panic c) (a.put oi.dst v) w → Q (.panic c) a w) (hy : YieldsIf P ops S oi v a) (hS : S w)
    (h : wpAnyT P ops Q S L fuel (listed.setIfInBounds i true) (a.put oi.dst v) w) : wpAnyT P ops Q S L (fuel + 1) listed a w :=
  wpAnyT_first hL hlast hiL (by simpa using hi) (Region.noSelect_spec hs) hQ fuel listed a w (Region.free_spec (by simpa using hi) hf) (by simpa using hr) hy hS h
/-- The one operation that may come up. -/
theorem wpAnyT_step (i : Nat) {o : Oper} {fuel : Nat} {listed : Array Bool} {a : Act} {w : World} (hr : Region.ready .any ops listed = [i]) (ho : ops.toList[i]? = some o)
    (h : ∀ K' : Act → World → Prop, Shut (∀ a w, S w → (S w → wpAnyT P ops Q S L fuel (listed.setIfInBounds i true) a w) → K' a w) → if Region.wanted o (yielded ops a.tmps) = true then Oper.wp P o a w K' Q else K' (a.put o.dst undef) w) :
    wpAnyT P ops Q S L (fuel + 1) listed a w := by
  refine ⟨fun h0 => (by rw [hr] at h0; cases h0), fun j hj => ?_⟩
  rw [hr] at hj
  obtain rfl : j = i := by simpa using hj
  exact wpOp_step (by simpa using ho) (fun K' hK => h K' (fun a w hS hW => hK a w ⟨fun _ => hS, hW hS⟩))
/-- The last one. -/
theorem wpAnyT_last {o : Oper} {fuel : Nat} {listed : Array Bool} {a : Act} {w : World} (hr : Region.ready .any ops listed = [L]) (hr2 : Region.ready .any ops (listed.setIfInBounds L true) = []) (ho : ops.toList[L]? = some o)
    (h : ∀ K' : Act → World → Prop, Shut (∀ a w, Q .normal a w → K' a w) → if Region.wanted o (yielded ops a.tmps) = true then Oper.wp P o a w K' Q else K' (a.put o.dst undef) w) :
    wpAnyT P ops Q S L (fuel + 1) listed a w := by
  refine ⟨fun h0 => (by rw [hr] at h0; cases h0), fun j hj => ?_⟩
  rw [hr] at hj
  obtain rfl : j = L := by simpa using hj
  refine wpOp_step (by simpa using ho) (fun K' hK => h K' (fun a w hq => hK a w ⟨fun h => absurd rfl h, ?_⟩))
  cases fuel with
  | zero => exact ⟨hr2, hq⟩
  | succ fuel => exact ⟨fun _ => hq, by rw [hr2]; simp⟩
theorem wp_region_line {id : Nat} {a : Act} {w : World} (S : World → Prop) (L : Nat) (hm : P.follows .mixedOrders = true) (hS : S w.drew)
    (h : S w.drew → wpAnyT P ops Q S L ops.size (Array.replicate ops.size false) a w.drew) : (Code.region id ops true).wp P Q a w :=
  wp_region_any hm (wpAny_of_T _ _ _ _ (h hS))
end
end Go

/- Moves of a walk through a region that draws its order, by hand. -/
namespace Go
set_option linter.all false
open RowKit
section
variable {P : Program} {ops : Array Oper} {Q : Exit → Act → World → Prop} {S : World → Prop}
theorem wpAnyH_takeL (i : Nat) {oi : Oper} {v : Value} {fuel : Nat} {listed : Array Bool} {a : Act} {w : World} (hr : (Region.ready .any ops listed).contains i = true) (hi : ops.toList[i]? = some oi)
    (hs : Region.noSelect ops = true) (hf : Region.free .any ops listed i = true)
    (hQ : ∀ c a w, Q (.panic c) (a.put oi.dst v) w → Q (.panic c) a w) (hy : YieldsIf P ops S oi v a) (hS : S w)
    (h : wpAnyH P .any ops Q S fuel (listed.setIfInBounds i true) (a.put oi.dst v) w) : wpAnyH P .any ops Q S (fuel + 1) listed a w :=
  wpAnyH_take (by simpa using hi) hs hf hr hQ hy hS h
theorem wpAnyH_end {fuel : Nat} {listed : Array Bool} {a : Act} {w : World} (hr : Region.ready .any ops listed = []) (h : Q .normal a w) : wpAnyH P .any ops Q S fuel listed a w := wpAnyH_done hr h fuel
theorem wp_region_heldL {id : Nat} {a : Act} {w : World} (S : World → Prop) (hm : P.follows .mixedOrders = true) (hS : S w.drew)
    (h : S w.drew → wpAnyH P .any ops Q S ops.size (Array.replicate ops.size false) a w.drew) : (Code.region id ops true).wp P Q a w :=
  wp_region_held hm (h hS)
end
end Go
