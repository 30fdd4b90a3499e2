/- Helpers and walks, in one text. -/
import Derived.Deep.Quiet
import Derived.Deep.QuietTactic
import Derived.StillTail
import Derived.BigQuiet
import Derived.WalkKit
import Derived.WalkSmall
import Derived.Lib.Hide
import Derived.Lib.AppendStr
import Derived.Lib.ConvBytes
import Derived.Deep.DeepCutAuto
import Derived.Deep.CutBlock
import Derived.RangeFuncNested
import Derived.RangeFuncBound
import Derived.RangeFuncCalls
import Derived.RangeFuncLeaves
import Derived.Shelf.Abstract
import Derived.Shelf.RegionOpen
import Derived.OwnWalkIn
import Derived.TacticsInMore
import Derived.LoopNIn
import Derived.LoopIn
import Derived.Sort.BigQuietIn
import Derived.Stop.RegionWithIn
import Derived.BigRegionIn
import Derived.BigFrameIn
import Derived.Deep.RegionHeld3
import Derived.Maps.AppendAt
import Derived.RangeFuncBox
import Derived.StillTailTactics
import Derived.Test.YtoggmplkbiidhaaGreatDoorProg
import Derived.OrdersIn
import Derived.Lib.BufferWrite
set_option linter.all false
set_option maxRecDepth 100000
set_option maxHeartbeats 40000000
/- Regions, rows that are owned, slices that read as lists, iterators, appends, rows of rows: what every walk uses. -/
/- A region that draws its order: operations at its head that only read (in a class of worlds), then operations in one forced order: one walk serves every order. -/
namespace Go
/-- Draws stand outermost. -/
@[go_sem] theorem World.setCell_drewN (w : World) (n : Nat) (a : Addr) (v : Value) : (w.drewN n).setCell a v = (w.setCell a v).drewN n := rfl
@[go_sem] theorem World.alloc_drewN (w : World) (n : Nat) (o : Obj) : (w.drewN n).alloc o = (w.alloc o).drewN n := rfl
section
variable {P : Program} {ops : Array Oper} {md : Region.Mode} {C : World → Prop}
def wpAnyQL (P : Program) (md : Region.Mode) (ops : Array Oper) (C : World → Prop) (n : Nat) (L : Array Bool → Act → Prop) : Nat → Array Bool → Act → Prop
 | 0, listed, a => L listed a
 | f + 1, listed, a =>
  Region.ready md ops listed ≠ [] ∧ ∀ i ∈ Region.ready md ops listed, i < n ∧ qOp P ops C i (wpAnyQL P md ops C n L f (listed.setIfInBounds i true)) a
theorem wpAny_of_headQ {n g : Nat} {L : Array Bool → Act → Prop} {Q' : Exit → Act → World → Prop} (hL : ∀ listed a w, C w → L listed a → wpAny P md ops Q' g listed a w) :
  ∀ (f : Nat) (listed : Array Bool) (a : Act) (w : World), C w → wpAnyQL P md ops C n L f listed a → wpAny P md ops Q' (f + g) listed a w
 | 0, listed, a, w, hw, h => by rw [Nat.zero_add]; exact hL _ _ _ hw h
 | f + 1, listed, a, w, hw, h => by
  rw [show f + 1 + g = (f + g) + 1 by omega]
  exact ⟨fun h0 => absurd h0 h.1, fun i hi => wpOp_of_qOp hw (fun a' w' hw' h' => wpAny_of_headQ hL f _ a' w' hw' h') (h.2 i hi).2⟩
theorem wpAnyQL_first {n i : Nat} {oi : Oper} {v : Value} {L : Array Bool → Act → Prop} (hi : ops[i]? = some oi) (hsel : ∀ (j : Nat) (o : Oper) cs b, ops[j]? = some o → o.op ≠ .select cs b)
  (hs : Region.sinkB md ops n = true) (hc : Region.chainB md ops n = true) (hn : n < ops.size) (hin : i < n)
  (hdone : ∀ listed a, L listed a → ∀ j ∈ Region.ready md ops listed, n ≤ j) :
  ∀ (f : Nat) (listed : Array Bool) (a : Act), HeadInv md ops n listed →
   (∀ j oj, ops[j]? = some oj → j ≠ i → listed.getD j true = false → (∀ e ∈ oj.after, Region.binds md e = true → e.on ≠ i) → oi.apart ops oj = true) →
   i ∈ Region.ready md ops listed → YieldsIn P ops C oi v a →
   wpAnyQL P md ops C n L f (listed.setIfInBounds i true) (a.put oi.dst v) → wpAnyQL P md ops C n L (f + 1) listed a := by
 intro f
 induction f with
 | zero =>
  intro listed a inv _ hr hy H
  have hun := (mem_ready.1 hr).1
  refine ⟨fun h => (by rw [h] at hr; cases hr), fun j hj => ?_⟩
  have hjn : j < n := by
   rcases Nat.lt_or_ge j n with h | h
   ·exact h
   ·exact absurd hj (tail_waits hs hc hn inv _ i rfl hin hun j h)
  refine ⟨hjn, ?_⟩
  by_cases hji : j = i
  ·subst hji; exact hy.qOp hi H
  ·have := hdone _ _ H j (ready_mono hj hji)
   omega
 | succ f ih =>
  intro listed a inv hfree hr hy H
  have hun := (mem_ready.1 hr).1
  refine ⟨fun h => (by rw [h] at hr; cases hr), fun j hj => ?_⟩
  have hjn : j < n := by
   rcases Nat.lt_or_ge j n with h | h
   ·exact h
   ·exact absurd hj (tail_waits hs hc hn inv _ i rfl hin hun j h)
  refine ⟨hjn, ?_⟩
  by_cases hji : j = i
  ·subst hji; exact hy.qOp hi H
  ·have h1 := (H.2 j (ready_mono hj hji)).2
   obtain ⟨hjun, oj, hoj, hall⟩ := mem_ready.1 hj
   have hnot : ∀ e ∈ oj.after, Region.binds md e = true → e.on ≠ i := fun e he hb heq => by
    have h1 := hall e he hb
    rw [heq, getD_both hun] at h1
    cases h1
   have h2 := qOp_put hoj (hfree j oj hoj hji hjun hnot) (fun cs b => hsel i oi cs b hi) (fun cs b => hsel j oj cs b hoj) hy h1
   have hfree' : ∀ k ok, ops[k]? = some ok → k ≠ i → (listed.setIfInBounds j true).getD k true = false →
     (∀ e ∈ ok.after, Region.binds md e = true → e.on ≠ i) → oi.apart ops ok = true := fun k ok hk hki hun hno => by
    refine hfree k ok hk hki ?_ hno
    by_cases hjk : j = k
    ·subst hjk; exact hjun
    ·rw [getD_set_ne true hjk] at hun; exact hun
   refine qOp_mono (fun a' h3 => ih (listed.setIfInBounds j true) a' (inv.set hj hjn) hfree' (ready_mono hr (Ne.symm hji)) h3.1 ?_) h2
   rw [Array.setIfInBounds_comm _ _ hji]
   exact h3.2
theorem wpAnyQL_lex {n g : Nat} {Lq : Act → Prop} (hsel : Region.noSelect ops = true) (hs : Region.sinkB md ops n = true) (hc : Region.chainB md ops n = true) (hn : n < ops.size) :
  ∀ (l : List Oper) (k : Nat) (listed : Array Bool) (a : Act), (∀ j, j < l.length → l[j]? = ops[k + j]?) → k + l.length = n → HeadInv md ops n listed →
  Region.lexHead md ops g l.length k listed = true → wpQuiet P ops C Lq l a →
  wpAnyQL P md ops C n (fun listed' a' => Region.seqB md ops g n listed' = true ∧ Lq a') l.length listed a
 | [], k, listed, a, _, hk, _, hB, h => by
  have : k = n := by simpa using hk
  subst this
  exact ⟨by simpa [Region.lexHead] using hB, h⟩
 | o :: l, k, listed, a, hl, hk, inv, hB, h => by
  have h0 : ops[k]? = some o := by simpa using (hl 0 (by simp)).symm
  simp only [List.length_cons, Region.lexHead, Bool.and_eq_true] at hB
  obtain ⟨⟨hr, hf⟩, hB'⟩ := hB
  have hkn : k < n := by simp only [List.length_cons] at hk; omega
  have hr' : k ∈ Region.ready md ops listed := by simpa using hr
  have hst : qOp P ops C k (wpQuiet P ops C Lq l) a := by unfold qOp; simp only [h0]; exact h
  obtain ⟨v, hy, hK⟩ := yieldsIn_of_qOp h0 hst
  exact wpAnyQL_first h0 (Region.noSelect_spec hsel) hs hc hn hkn (fun listed' a' hL => seqB_ready hL.1) l.length listed a inv (Region.free_spec h0 hf) hr' hy
   (wpAnyQL_lex hsel hs hc hn l (k + 1) _ _ (fun j hj => by have := hl (j + 1) (by simp; omega); simpa [Nat.add_assoc, Nat.add_comm 1 j] using this) (by simp only [List.length_cons] at hk; omega) (inv.set hr' hkn) hB' hK)
/-- The first n operations only read, in every world of the class C; the others stand in one forced order behind them. -/
theorem wp_region_quiet_tail {id : Nat} {Q : Exit → Act → World → Prop} {a : Act} {w : World} {l : List Oper} (n : Nat) (hm : P.follows .mixedOrders = true) (hB : Region.lexTailB .any l.toArray n = true)
  (hC : C w.drew) (h : wpQuiet P l.toArray C (fun a' => ∀ w', C w' → wpList P l.toArray Q (l.drop n) a' w') (l.take n) a) : (Code.region id l.toArray true).wp P Q a w := by
 simp only [Region.lexTailB, Bool.and_eq_true, decide_eq_true_eq] at hB
 obtain ⟨⟨⟨⟨hsel, hn⟩, hs⟩, hc⟩, hlex⟩ := hB
 have hn' : n < l.length := by simpa using hn
 have htl : (l.take n).length = n := by simp; omega
 have hdl : (l.drop n).length = l.toArray.size - n := by simp
 have inv0 : HeadInv .any l.toArray n (Array.replicate l.toArray.size false) :=
  ⟨by simp, fun j oj _ hl => (by rw [getD_replicate_false] at hl; cases hl), fun t _ ht => getD_in (by simpa using ht) (getD_replicate_false _ _)⟩
 have H := wpAnyQL_lex (md := .any) (g := l.toArray.size - n) hsel hs hc hn (l.take n) 0 _ a (fun j hj => by
  have hj' : j < n := by rw [htl] at hj; exact hj
  simp [hj']) (by simpa using htl) inv0 (by rw [htl]; exact hlex) h
 refine wp_region_any hm ?_
 have := wpAny_of_headQ (Q' := Q) (g := l.toArray.size - n) (fun listed a' w' hw' hL => by
  have := wpAny_of_seq (md := .any) (Q' := Q) (l.drop n) n listed a' w' (fun j => by simp [List.getElem?_drop]) (by rw [hdl]; exact hL.1) (hL.2 _ hw')
  rwa [hdl] at this) _ _ _ _ hC H
 rw [htl, show n + (l.toArray.size - n) = l.toArray.size by omega] at this
 exact this
/-- The same at the class 'w after some draws'. -/
theorem wp_region_quiet_tail_lit {id : Nat} {Q : Exit → Act → World → Prop} {a : Act} {w : World} {l : List Oper} (n : Nat) (hm : P.follows .mixedOrders = true) (hB : Region.lexTailB .any l.toArray n = true)
  (h : wpQuiet P l.toArray (fun w' => ∃ n, w' = w.drewN n) (fun a' => ∀ w', (∃ n, w' = w.drewN n) → wpList P l.toArray Q (l.drop n) a' w') (l.take n) a) : (Code.region id l.toArray true).wp P Q a w :=
 wp_region_quiet_tail (C := fun w' => ∃ n, w' = w.drewN n) n hm hB ⟨1, rfl⟩ h
/-- The same where draws have been made before: the class is counted from the world without draws. -/
theorem wp_region_quiet_tail_at {id k : Nat} {Q : Exit → Act → World → Prop} {a : Act} {w : World} {l : List Oper} (n : Nat) (hm : P.follows .mixedOrders = true) (hB : Region.lexTailB .any l.toArray n = true)
  (h : wpQuiet P l.toArray (fun w' => ∃ n, w' = w.drewN n) (fun a' => ∀ w', (∃ n, w' = w.drewN n) → wpList P l.toArray Q (l.drop n) a' w') (l.take n) a) : (Code.region id l.toArray true).wp P Q a (w.drewN k) :=
 wp_region_quiet_tail (C := fun w' => ∃ n, w' = w.drewN n) n hm hB ⟨k + 1, rfl⟩ h
theorem wp_region_quiet_at {id k : Nat} {Q : Exit → Act → World → Prop} {a : Act} {w : World} {l : List Oper} (hm : P.follows .mixedOrders = true) (hB : Region.lexB .any l.toArray = true)
  (h : wpQuiet P l.toArray (fun w' => ∃ n, w' = w.drewN n) (fun a' => ∀ w', (∃ n, w' = w.drewN n) → Q .normal a' w') l a) : (Code.region id l.toArray true).wp P Q a (w.drewN k) :=
 wp_region_quiet (C := fun w' => ∃ n, w' = w.drewN n) hm hB ⟨k + 1, rfl⟩ (by simpa using h)
end
/-! ### Blocks -/
theorem alloc_last (w : World) (o : Obj) {n : Nat} (h : n = w.heap.size) : (w.alloc o).heap[n]? = some o := by
 subst h; exact heap_alloc_new w o
theorem lt_of_heap {w : World} {b : Nat} {o : Obj} (h : w.heap[b]? = some o) : b < w.heap.size := by
 rcases Nat.lt_or_ge b w.heap.size with h' | h'
 ·exact h'
 ·rw [Array.getElem?_eq_none h'] at h; cases h
theorem bcell {B : Nat} {W w1 : World} (hb : RowKit.Below B W w1) : (∀ b o, b < B → w1.cell? ⟨b, o, none⟩ = W.cell? ⟨b, o, none⟩) ∧ (∀ b o, b < B → w1.frozen? ⟨b, o, none⟩ = W.frozen? ⟨b, o, none⟩) :=
 ⟨fun b o h => hb.cell (p := ⟨b, o, none⟩) h, fun b o h => hb.frozen (p := ⟨b, o, none⟩) h⟩
end Go
/- A row that the call owns, its frozen stretch being harmless (a conversion's row is marked behind its end). -/
namespace Go
open RowKit
open Lib (strCells strCells_length strCells_oneCell)
/-- No cell of the row is frozen. -/
def okFz (fz : Nat × Nat) (n : Nat) : Prop := ∀ o, o < n → ¬ (fz.1 ≤ o ∧ o < fz.2)
theorem okFz_zero (n : Nat) : okFz (0, 0) n := fun _ _ h => by omega
/-- The slice value v, of n elements of size cells each, owns the cells xs. -/
def World.owns (w : World) (base : Nat) (e : TypeId) (size : Nat) (v : Value) (n : Nat) (xs : List Value) : Prop :=
  xs.length = n * size ∧
  ((v = .slice none 0 0 ∧ n = 0) ∨
   ∃ g cap cur fz, v = .slice (some ⟨g, 0, none⟩) n cap ∧ base ≤ g ∧ w.heap[g]? = some (.cells cur e fz) ∧ okFz fz cur.size ∧ n ≤ cap ∧ cap ≤ maxLen ∧ cur.size = cap * size ∧ cur.toList.take (n * size) = xs)
section
variable {w : World} {base : Nat} {e : TypeId} {size : Nat} {v : Value} {n : Nat} {xs : List Value}
theorem World.owns_of (h : w.ownsRow base e size v n xs) : w.owns base e size v n xs := by
 refine ⟨h.1, ?_⟩
 rcases h.2 with hn | ⟨g, cap, cur, hv, hb, hg, rest⟩
 ·exact .inl hn
 ·exact .inr ⟨g, cap, cur, (0, 0), hv, hb, hg, okFz_zero _, rest⟩
theorem World.owns_nil (w : World) (base : Nat) (e : TypeId) (size : Nat) : w.owns base e size (.slice none 0 0) 0 [] := ⟨by simp, .inl ⟨rfl, rfl⟩⟩
theorem World.owns.lt (h : w.owns base e size v n xs) : ∀ k, v.ownBlock = some k → base ≤ k ∧ k < w.heap.size := by
 intro k hk
 rcases h.2 with ⟨rfl, _⟩ | ⟨g, cap, cur, fz, rfl, hb, hg, _⟩
 ·simp [Value.ownBlock] at hk
 ·simp [Value.ownBlock] at hk
  subst hk
  exact ⟨hb, lt_of_heap hg⟩
theorem World.owns.kept {w' : World} {row : Option Nat} (h : w.owns base e size v n xs) (hg : w.grownBy w' row) (hne : v.ownBlock = none ∨ v.ownBlock ≠ row) : w'.owns base e size v n xs := by
 refine ⟨h.1, ?_⟩
 rcases h.2 with hn | ⟨g, cap, cur, fz, rfl, hb, hgg, rest⟩
 ·exact .inl hn
 ·refine .inr ⟨g, cap, cur, fz, rfl, hb, ?_, rest⟩
  rw [hg.block g (lt_of_heap hgg) (by simpa [Value.ownBlock] using hne)]
  exact hgg
theorem World.owns.alloc (h : w.owns base e size v n xs) (o : Obj) : (w.alloc o).owns base e size v n xs :=
 h.kept (World.grownBy_alloc w o none) (by cases hv : v.ownBlock <;> simp)
theorem World.owns.drew (h : w.owns base e size v n xs) : w.drew.owns base e size v n xs := h
theorem World.owns.mono {base' : Nat} (h : w.owns base e size v n xs) (hb : base' ≤ base) : w.owns base' e size v n xs := by
 refine ⟨h.1, ?_⟩
 rcases h.2 with hn | ⟨g, cap, cur, fz, rfl, hb', rest⟩
 ·exact .inl hn
 ·exact .inr ⟨g, cap, cur, fz, rfl, Nat.le_trans hb hb', rest⟩
theorem World.owns.below {w' : World} (h : w.owns base e size v n xs) (hb : Below w.heap.size w w') : w'.owns base e size v n xs := by
 refine ⟨h.1, ?_⟩
 rcases h.2 with hn | ⟨g, cap, cur, fz, rfl, hb', hgg, rest⟩
 ·exact .inl hn
 ·refine .inr ⟨g, cap, cur, fz, rfl, hb', ?_, rest⟩
  rw [hb.block g (lt_of_heap hgg)]; exact hgg
/-- A store into a block below the base. -/
theorem World.owns.setCell (h : w.owns base e size v n xs) {a : Addr} (ha : a.block < base) (u : Value) : (w.setCell a u).owns base e size v n xs := by
 refine ⟨h.1, ?_⟩
 rcases h.2 with hn | ⟨g, cap, cur, fz, rfl, hb', hgg, rest⟩
 ·exact .inl hn
 ·refine .inr ⟨g, cap, cur, fz, rfl, hb', ?_, rest⟩
  rw [Below.heap_setCell _ _ _ _ (by omega)]; exact hgg
/-- A store into another block. -/
theorem World.owns.setCell_ne (h : w.owns base e size v n xs) {a : Addr} (ha : v.ownBlock ≠ some a.block) (u : Value) : (w.setCell a u).owns base e size v n xs := by
 refine ⟨h.1, ?_⟩
 rcases h.2 with hn | ⟨g, cap, cur, fz, rfl, hb', hgg, rest⟩
 ·exact .inl hn
 ·refine .inr ⟨g, cap, cur, fz, rfl, hb', ?_, rest⟩
  rw [Below.heap_setCell _ _ _ _ (by intro e; apply ha; simp [Value.ownBlock, e])]; exact hgg
theorem World.owns.cells (h : w.owns base e size v n xs) {g : Nat} (hg : v.ownBlock = some g) : ∀ j u, xs[j]? = some u → w.cell? ((⟨g, 0, none⟩ : Addr).add j) = some u := by
 intro j u hu
 rcases h.2 with ⟨rfl, _⟩ | ⟨g', cap, cur, fz, rfl, _, hgg, _, _, _, _, htake⟩
 ·simp [Value.ownBlock] at hg
 ·simp [Value.ownBlock] at hg
  subst hg
  have hadd : (⟨g', 0, none⟩ : Addr).add j = ⟨g', j, none⟩ := by unfold Addr.add; split <;> simp_all
  rw [hadd, cell_of_row w g' j cur e fz hgg]
  rw [← htake, List.getElem?_take] at hu
  split at hu
  ·simpa using hu
  ·cases hu
theorem World.owns.cell {g len cap : Nat} (h : w.owns base e size (.slice (some ⟨g, 0, none⟩) len cap) n xs) (j : Nat) (u : Value) (hj : xs[j]? = some u) : w.cell? ⟨g, j, none⟩ = some u := by
 have := h.cells rfl j u hj
 rwa [show (⟨g, 0, none⟩ : Addr).add j = ⟨g, j, none⟩ by unfold Addr.add; split <;> simp_all] at this
theorem World.owns.facts {g len cap : Nat} (h : w.owns base e size (.slice (some ⟨g, 0, none⟩) len cap) n xs) : len = n ∧ n ≤ cap ∧ base ≤ g ∧ cap ≤ maxLen ∧ g < w.heap.size := by
 rcases h.2 with ⟨h0, _⟩ | ⟨g', cap', cur, fz, hv, hb, hg, _, hle, hm, _⟩
 ·cases h0
 ·cases hv; exact ⟨rfl, hle, hb, hm, lt_of_heap hg⟩
theorem World.owns.succ {k : Nat} (h : w.owns base e size v (k + 1) xs) : ∃ g cap, v = .slice (some ⟨g, 0, none⟩) (k + 1) cap := by
 rcases h.2 with ⟨_, h0⟩ | ⟨g, cap, _, _, rfl, _⟩
 ·omega
 ·exact ⟨g, cap, rfl⟩
end
theorem World.owns.pos {w : World} {base : Nat} {e : TypeId} {size : Nat} {v : Value} {n : Nat} {xs : List Value} (h : w.owns base e size v n xs) (hn : 0 < n) : ∃ g cap, v = .slice (some ⟨g, 0, none⟩) n cap := by
 rcases h.2 with ⟨_, h0⟩ | ⟨g, cap, _, _, rfl, _⟩
 ·omega
 ·exact ⟨g, cap, rfl⟩
theorem run_storeCells_fz (P : Program) (g o : Nat) (t : TypeId) (fz : Nat × Nat) : ∀ (vs : List Value) (i : Nat) (cur : Array Value) (w : World), w.heap[g]? = some (.cells cur t fz) → okFz fz cur.size → o + i + vs.length ≤ cur.size → (∀ v ∈ vs, v.oneCell' = true) →
  (storeCells ⟨g, o, none⟩ vs i).run P w = .ok () (w.setRow g (cur.toList.take (o + i) ++ vs ++ cur.toList.drop (o + i + vs.length)).toArray)
 | [], i, cur, w, hg, _, _, _ => by
  simp only [storeCells, List.append_nil, List.length_nil, Nat.add_zero, List.take_append_drop, Array.toArray_toList]
  rw [setRow_self w g cur t fz hg]
  rfl
 | v :: rest, i, cur, w, hg, hfz, hl, h1 => by
  have hi : o + i < cur.size := by simp at hl; omega
  have hadd : (⟨g, o, none⟩ : Addr).add i = ⟨g, o + i, none⟩ := by unfold Addr.add; split <;> simp_all
  have hcell : w.cell? ⟨g, o + i, none⟩ = some cur[o + i] := by simp [World.cell?, hg, hi]
  have hfro : w.frozen? ⟨g, o + i, none⟩ = false := by
   have := hfz (o + i) hi
   obtain ⟨lo, hi'⟩ := fz
   simp only [World.frozen?, hg, Bool.and_eq_false_iff, decide_eq_false_iff_not]
   simp only at this
   omega
  have hst : (store ((⟨g, o, none⟩ : Addr).add i) v).run P w = .ok () (w.setRow g (cur.setIfInBounds (o + i) v)) := by
   rw [hadd, run_store P w _ v _ (h1 v (by simp)), hcell]
   simp [hfro, setCell_eq_setRow w g (o + i) cur t fz v hg]
  have ih := run_storeCells_fz P g o t fz rest (i + 1) (cur.setIfInBounds (o + i) v) (w.setRow g (cur.setIfInBounds (o + i) v)) (setRow_heap w g cur _ t _ hg) (by simpa using hfz) (by simp at hl ⊢; omega) (fun x hx => h1 x (by simp [hx]))
  simp only [storeCells, Sem.run_bind, hst, Result.andThen_ok, ih, setRow_setRow]
  congr 3
  have e := list_seg_step cur.toList (o + i) v rest (by simp at hl ⊢; omega)
  simpa [Array.toList_setIfInBounds, Nat.add_assoc] using e
section
variable {P : Program} (w : World)
theorem run_append_room_fz (t ty e : TypeId) (i : TypeInfo) (ht : P.underlying t = some (.slice e)) (hi : P.info? e = some i)
  (g sLen sCap : Nat) (cur : Array Value) (fz : Nat × Nat) (hg : w.heap[g]? = some (.cells cur e fz)) (hfz : okFz fz cur.size)
  (a : Addr) (m c : Nat) (news : List Value) (hl : news.length = m * i.size) (hnews : ∀ j u, news[j]? = some u → w.cell? (a.add j) = some u) (h1 : ∀ u ∈ news, u.oneCell' = true)
  (hroom : sLen + m ≤ sCap) (hfit : sLen * i.size + news.length ≤ cur.size) :
  (Builtin.append_ #[t, t] ty #[.slice (some ⟨g, 0, none⟩) sLen sCap, .slice (some a) m c]).run P w =
   .ok (.slice (some ⟨g, 0, none⟩) (sLen + m) sCap) (w.setRow g (cur.toList.take (sLen * i.size) ++ news ++ cur.toList.drop (sLen * i.size + news.length)).toArray) := by
 have hf := run_firstCells_some (P := P) w i.size m a m c news hl hnews
 have hst := run_storeCells_fz P g (sLen * i.size) e fz news 0 cur w hg hfz (by simpa using hfit) h1
 simp only [Nat.add_zero] at hst
 simp [Builtin.append_, run_underlying ht, sizeOf, typeInfo, hi, Builtin.lenOf, hroom, hf, Addr.add_lit, hst]
/-- append of a slice that reads as 'news' to an owned one. -/
theorem run_append_owns (base : Nat) (t ty e : TypeId) (i : TypeInfo) (z : Value) (size bytes : Nat) (ht : P.underlying t = some (.slice e)) (hi : P.info? e = some i) (hz : i.zero = some z)
  (hsize : i.size = size) (hby : i.bytes = bytes) (hzs : z.cells.size = size) (hsz : 0 < size)
  (v : Value) (n : Nat) (xs : List Value) (hown : w.owns base e size v n xs)
  (a : Addr) (m c : Nat) (news : List Value) (hl : news.length = m * size) (hnews : ∀ j u, news[j]? = some u → w.cell? (a.add j) = some u) (h1 : ∀ u ∈ news, u.oneCell' = true)
  (h63 : n + m ≤ maxLen) (hbytes : (n + m) * bytes ≤ 140737488355328) (hbase : base ≤ w.heap.size) :
  ∃ v' w', (Builtin.append_ #[t, t] ty #[v, .slice (some a) m c]).run P w = .ok v' w' ∧ w'.owns base e size v' (n + m) (xs ++ news) ∧ w.grownBy w' v.ownBlock ∧
   (v' = .slice none 0 0 ↔ v = .slice none 0 0 ∧ m = 0) := by
 rcases hown.2 with ⟨rfl, rfl⟩ | ⟨g, cap, cur, fz, rfl, hbg, hg, hfz, hnc, hcm, hcs, htake⟩
 ·obtain ⟨v', w', h1, h2, h3, h4⟩ := run_append_own (P := P) w base t ty e i z size bytes ht hi hz hsize hby hzs hsz (.slice none 0 0) 0 xs ⟨hown.1, .inl ⟨rfl, rfl⟩⟩ a m c news hl hnews h1 h63 hbytes hbase
  exact ⟨v', w', h1, World.owns_of h2, h3, h4⟩
 ·subst hsize
  subst hby
  have hsmall : n + m ≤ 9223372036854775807 := by simp only [maxLen] at h63; omega
  have hlen : (xs ++ news).length = (n + m) * i.size := by rw [List.length_append, hown.1, hl, Nat.add_mul]
  by_cases hroom : n + m ≤ cap
  ·have hfit : n * i.size + news.length ≤ cur.size := by rw [hl, hcs, ← Nat.add_mul]; exact Nat.mul_le_mul_right _ hroom
   have hr := run_append_room_fz (P := P) w t ty e i ht hi g n cap cur fz hg hfz a m c news hl hnews h1 hroom hfit
   have hsz' : (cur.toList.take (n * i.size) ++ news ++ cur.toList.drop (n * i.size + news.length)).toArray.size = cur.size := by
    simp only [List.size_toArray, List.length_append, List.length_take, List.length_drop, Array.length_toList]
    omega
   refine ⟨_, _, hr, ⟨hlen, .inr ⟨g, cap, _, fz, rfl, hbg, setRow_heap w g cur _ e _ hg, by rw [hsz']; exact hfz, hroom, hcm, by rw [hsz']; exact hcs, ?_⟩⟩, ⟨rfl, rfl, rfl, by simp, fun k _ hk => setRow_other w g k _ (fun e => hk (by simp [Value.ownBlock, e]))⟩, by simp⟩
   rw [htake, ← hlen]
   exact List.take_left
  ·have holds : ∀ j u, xs[j]? = some u → w.cell? ((⟨g, 0, none⟩ : Addr).add j) = some u := hown.cells (g := g) rfl
   have hr := run_append_grow (P := P) w t ty e i z ht hi hz ⟨g, 0, none⟩ n cap xs hown.1 holds a m c news hl hnews (by omega) (by omega) (growslice_fits (by omega) hbytes)
   have hge := grownCap_ge w (n + m) cap e
   have hcm2 : grownCap w (n + m) cap e ≤ maxLen := grownCap_le_maxLen w (n + m) cap e h63
   refine ⟨_, _, hr, ⟨hlen, .inr ⟨w.heap.size, _, _, (0, 0), rfl, hbase, heap_alloc_new w.drew _, okFz_zero _, hge, hcm2, ?_, ?_⟩⟩, ⟨rfl, rfl, rfl, by simp, fun k hk _ => Below.heap_alloc w.drew _ k hk⟩, by simp⟩
   ·simp only [Array.size_append, List.size_toArray, size_zeroCells, hzs, hown.1, hl, ← Nat.add_mul]
    congr 1
    omega
   ·simp only [Array.toList_append, List.append_assoc]
    rw [← List.append_assoc, ← hlen]
    exact List.take_left
theorem wpList_append_owns {ops : Array Oper} {rest : List Oper} {o : Oper} {a : Act} {Q : Exit → Act → World → Prop} (hgd : o.guard = none) (s x : Operand) (t : TypeId)
  (ho : o.op = .call { callee := .builtin .append, args := #[s, x], argTypes := #[t, t] })
  (base : Nat) (e : TypeId) (i : TypeInfo) (z : Value) (size bytes : Nat) (ht : P.underlying t = some (.slice e)) (hi : P.info? e = some i) (hz : i.zero = some z)
  (hsize : i.size = size) (hby : i.bytes = bytes) (hzs : z.cells.size = size) (hsz : 0 < size)
  (v : Value) (n : Nat) (xs : List Value) (hs : a.eval s = v) (hown : w.owns base e size v n xs)
  (ad : Addr) (m c : Nat) (news : List Value) (hx : a.eval x = .slice (some ad) m c) (hl : news.length = m * size) (hnews : ∀ j u, news[j]? = some u → w.cell? (ad.add j) = some u) (h1 : ∀ u ∈ news, u.oneCell' = true)
  (h63 : n + m ≤ maxLen) (hbytes : (n + m) * bytes ≤ 140737488355328) (hbase : base ≤ w.heap.size)
  (h : ∀ v' w', w'.owns base e size v' (n + m) (xs ++ news) → w.grownBy w' v.ownBlock → (v' = .slice none 0 0 ↔ v = .slice none 0 0 ∧ m = 0) → wpList P ops Q rest (a.put o.dst v') w') : wpList P ops Q (o :: rest) a w := by
 refine wpList_plain hgd fun K hK => ?_
 obtain ⟨v', w', hr, h2, h3, h4⟩ := run_append_owns (P := P) w base t o.type e i z size bytes ht hi hz hsize hby hzs hsz v n xs hown ad m c news hl hnews h1 h63 hbytes hbase
 unfold Oper.wp execOp
 simp only [ho, resolve, invoke, builtin, Sem.run_bind, Sem.run_pure, Result.andThen_ok, List.map_toArray, List.map_cons, List.map_nil, hs, hx, hr]
 exact hK _ _ (h v' w' h2 h3 h4)
end
/-! ### Bytes and strings -/
section
variable {P : Program} (w : World)
/-- '[]byte(s)': the row is the call's own. -/
theorem run_bytes_owns (src dst e : TypeId) (s : ByteArray) (hs : P.underlying src = some .string) (hd : P.underlying dst = some (.slice e)) (he : P.underlying e = some (.int .u8)) (hsz : s.size ≤ maxLen) :
  ∃ cap w', (convert src dst (.string s)).run P w = .ok (.slice (some ⟨w.heap.size, 0, none⟩) s.size cap) w' ∧
   w'.owns w.heap.size e 1 (.slice (some ⟨w.heap.size, 0, none⟩) s.size cap) s.size (strCells s) ∧ w.grownBy w' none := by
 have hge := grownCap_ge w s.size 0 e
 refine ⟨_, _, Lib.run_convert_string_bytes w src dst e s hs hd he, ⟨by rw [strCells_length, Nat.mul_one], .inr ⟨w.heap.size, _, Lib.bytesCells w e s, _, rfl, Nat.le_refl _, Lib.bytesWorld_at_new w e s, ?_, hge, grownCap_le_maxLen w _ _ e hsz, ?_, ?_⟩⟩, ?_⟩
 ·intro o ho h; simp only at h; omega
 ·simp [Lib.bytesCells]; omega
 ·simp only [Lib.bytesCells, Array.toList_append, Nat.mul_one]
  rw [show s.size = (s.data.map fun b => Value.int .u8 b.toNat).toList.length by simp, List.take_left]
  simp [strCells]
 ·exact ⟨rfl, rfl, rfl, by rw [Lib.bytesWorld_size]; omega, fun k hk _ => Lib.bytesWorld_at_old w e s k hk⟩
theorem wpList_bytes_owns {ops : Array Oper} {rest : List Oper} {o : Oper} {a : Act} {Q : Exit → Act → World → Prop} (hgd : o.guard = none) (x : Operand) (src dst e : TypeId)
  (ho : o.op = .convert src dst x) (s : ByteArray) (hx : a.eval x = .string s) (hs : P.underlying src = some .string) (hd : P.underlying dst = some (.slice e)) (he : P.underlying e = some (.int .u8)) (hsz : s.size ≤ maxLen)
  (h : ∀ cap w', w'.owns w.heap.size e 1 (.slice (some ⟨w.heap.size, 0, none⟩) s.size cap) s.size (strCells s) → w.grownBy w' none → wpList P ops Q rest (a.put o.dst (.slice (some ⟨w.heap.size, 0, none⟩) s.size cap)) w') : wpList P ops Q (o :: rest) a w := by
 refine wpList_plain hgd fun K hK => ?_
 obtain ⟨cap, w', hr, h2, h3⟩ := run_bytes_owns (P := P) w src dst e s hs hd he hsz
 unfold Oper.wp execOp
 simp only [ho, hx, Sem.run_bind, hr, Result.andThen_ok, Sem.run_pure]
 exact hK _ _ (h cap w' h2 h3)
/-- An owned row of bytes, cut at its head and made a string. -/
theorem run_owns_string {w : World} {base g len cap n m : Nat} {l : List UInt8} (src dst e : TypeId) (hs : P.underlying src = some (.slice e)) (he : P.underlying e = some (.int .u8)) (hd : P.underlying dst = some .string)
  (h : w.owns base e 1 (.slice (some ⟨g, 0, none⟩) len cap) n (l.map fun b => Value.int .u8 (b.toNat : Int))) (hm : m ≤ l.length) (c : Nat) :
  (convert src dst (.slice (some ⟨g, 0, none⟩) m c)).run P w = .ok (.string ⟨(l.take m).toArray⟩) w := by
 have hc := h.cells rfl
 have := run_convert_bytes_back (P := P) w src dst e ⟨g, 0, none⟩ c (l.take m) hs he hd (fun j hj => by
  have hj' : j < l.length := by simp at hj; omega
  refine hc j _ ?_
  simp [hj'])
 rw [List.length_take, Nat.min_eq_left hm] at this
 exact this
end
/-! ### A slice of one-cell elements that is only read -/
/-- The slice value v reads as xs; its cells lie below block B. -/
def World.reads (w : World) (B : Nat) (v : Value) (xs : List Value) : Prop :=
 ∃ a cap, v = .slice a xs.length cap ∧ (a = none → cap = 0) ∧ xs.length ≤ cap ∧ cap ≤ maxLen ∧ ∀ j u, xs[j]? = some u → ∃ b off, a = some ⟨b, off, none⟩ ∧ b < B ∧ w.cell? ⟨b, off + j, none⟩ = some u
theorem World.reads.below {w w' : World} {B : Nat} {v : Value} {xs : List Value} (h : w.reads B v xs) (hb : Below B w w') : w'.reads B v xs := by
 obtain ⟨a, cap, hv, hn, hz, hmx, hc⟩ := h
 refine ⟨a, cap, hv, hn, hz, hmx, fun j u hj => ?_⟩
 obtain ⟨b, off, ha, hB, hcell⟩ := hc j u hj
 exact ⟨b, off, ha, hB, (hb.cell (p := ⟨b, off + j, none⟩) hB).trans hcell⟩
theorem World.reads.mono {w : World} {B B' : Nat} {v : Value} {xs : List Value} (h : w.reads B v xs) (hb : B ≤ B') : w.reads B' v xs := by
 obtain ⟨a, cap, hv, hn, hz, hmx, hc⟩ := h
 refine ⟨a, cap, hv, hn, hz, hmx, fun j u hj => ?_⟩
 obtain ⟨b, off, ha, hB, hcell⟩ := hc j u hj
 exact ⟨b, off, ha, by omega, hcell⟩
theorem World.owns.reads {w : World} {base : Nat} {e : TypeId} {v : Value} {n : Nat} {xs : List Value} (h : w.owns base e 1 v n xs) : w.reads w.heap.size v xs := by
 have hl : xs.length = n := by have := h.1; omega
 rcases h.2 with ⟨h1, h2⟩ | ⟨g, cap, cur, fz, rfl, hb, hg, _, hcap, hcm, _⟩
 ·have : xs = [] := List.eq_nil_of_length_eq_zero (by omega)
  subst this
  exact ⟨none, 0, h1, fun _ => rfl, Nat.le_refl _, Nat.zero_le _, fun j u hj => by simp at hj⟩
 ·refine ⟨some ⟨g, 0, none⟩, cap, by rw [hl], by simp, by omega, hcm, fun j u hj => ⟨g, 0, rfl, lt_of_heap hg, ?_⟩⟩
  rw [Nat.zero_add]; exact h.cell j u hj
theorem news_alloc (w : World) (l : List Value) (e : TypeId) : ∀ j u, l[j]? = some u → (w.alloc (.cells l.toArray e)).cell? ((⟨w.heap.size, 0, none⟩ : Addr).add j) = some u := by
 intro j u hj
 have hadd : (⟨w.heap.size, 0, none⟩ : Addr).add j = ⟨w.heap.size, j, none⟩ := by unfold Addr.add; split <;> simp_all
 rw [hadd, cell_of_row _ _ _ _ _ (0, 0) (heap_alloc_new w _)]
 simpa using hj
/-- A block of another element type is not the row's. -/
theorem World.owns.ne {w : World} {base b : Nat} {e T : TypeId} {size : Nat} {v : Value} {n : Nat} {xs : List Value} {c : Array Value} {fz : Nat × Nat} (h : w.owns base e size v n xs) (hb : w.heap[b]? = some (.cells c T fz)) (hT : T ≠ e) : v.ownBlock ≠ some b := by
 intro hk
 rcases h.2 with ⟨rfl, _⟩ | ⟨g, cap, cur, fz', rfl, _, hg, _⟩
 ·simp [Value.ownBlock] at hk
 ·simp [Value.ownBlock] at hk
  subst hk
  rw [hb] at hg
  cases hg
  exact hT rfl
/-! ### The same laws at an operation of a region that draws its order -/
theorem step_append_owns {P : Program} (w : World) {ops : Array Oper} {o : Oper} {a : Act} {K : Act → World → Prop} {Q : Exit → Act → World → Prop} {E : Prop} (hgd : o.guard = none) (s x : Operand) (t : TypeId)
  (ho : o.op = .call { callee := .builtin .append, args := #[s, x], argTypes := #[t, t] })
  (base : Nat) (e : TypeId) (i : TypeInfo) (z : Value) (size bytes : Nat) (ht : P.underlying t = some (.slice e)) (hi : P.info? e = some i) (hz : i.zero = some z)
  (hsize : i.size = size) (hby : i.bytes = bytes) (hzs : z.cells.size = size) (hsz : 0 < size)
  (v : Value) (n : Nat) (xs : List Value) (hs : a.eval s = v) (hown : w.owns base e size v n xs)
  (ad : Addr) (m c : Nat) (news : List Value) (hx : a.eval x = .slice (some ad) m c) (hl : news.length = m * size) (hnews : ∀ j u, news[j]? = some u → w.cell? (ad.add j) = some u) (h1 : ∀ u ∈ news, u.oneCell' = true)
  (h63 : n + m ≤ maxLen) (hbytes : (n + m) * bytes ≤ 140737488355328) (hbase : base ≤ w.heap.size)
  (h : ∀ v' w', w'.owns base e size v' (n + m) (xs ++ news) → w.grownBy w' v.ownBlock → K (a.put o.dst v') w') :
  if Region.wanted o (yielded ops a.tmps) = true then Oper.wp P o a w K Q else E := by
 have hw : Region.wanted o (yielded ops a.tmps) = true := by simp [Region.wanted, hgd]
 rw [if_pos hw]
 obtain ⟨v', w', hr, h2, h3, h4⟩ := run_append_owns (P := P) w base t o.type e i z size bytes ht hi hz hsize hby hzs hsz v n xs hown ad m c news hl hnews h1 h63 hbytes hbase
 unfold Oper.wp execOp
 simp only [ho, resolve, invoke, builtin, Sem.run_bind, Sem.run_pure, Result.andThen_ok, List.map_toArray, List.map_cons, List.map_nil, hs, hx, hr]
 exact h v' w' h2 h3
end Go
/- Slices that are read: what a walk asks of them. -/
namespace Go
open RowKit
theorem reads_nil (w : World) (B : Nat) : w.reads B (.slice none 0 0) [] := ⟨none, 0, rfl, fun _ => rfl, Nat.le_refl _, Nat.zero_le _, fun j u hj => by simp at hj⟩
theorem World.reads.drew {w : World} {B : Nat} {v : Value} {xs : List Value} (h : w.reads B v xs) : w.drew.reads B v xs := h
end Go
/- Iterators over numbered elements: prefixes; blocks that a round keeps. -/
namespace Go
open RowKit
/-- The blocks of a set are kept. -/
def KeepP (S : Nat → Prop) (W W' : World) : Prop := ∀ b, S b → W'.heap[b]? = W.heap[b]?
theorem KeepP.refl {S : Nat → Prop} (W : World) : KeepP S W W := fun _ _ => rfl
theorem KeepP.trans {S : Nat → Prop} {A B C : World} (h : KeepP S A B) (k : KeepP S B C) : KeepP S A C := fun b hb => (k b hb).trans (h b hb)
theorem KeepP.cell {S : Nat → Prop} {W W' : World} (h : KeepP S W W') {b o : Nat} (hb : S b) : W'.cell? ⟨b, o, none⟩ = W.cell? ⟨b, o, none⟩ := World.cell?_of_block (a := ⟨b, o, none⟩) (h b hb)
theorem keepP_b {S : Nat → Prop} {B : Nat} (hS : ∀ b, S b → b < B) (W : World) (l : Nat) (o o' : Obj) (hl : B ≤ l) (h : W.heap[l]? = some o) (_ : o.isCells = false) (_ : o.isWalk = false) : KeepP S W (W.putObj l o') :=
 fun b hb => (grownBy_putObj' W l o').block b (by have := lt_of_heap h; have := hS b hb; omega) (fun e => by cases e; have := hS _ hb; omega)
theorem KeepP.below {S : Nat → Prop} {B : Nat} {W W' : World} (h : Below B W W') (hS : ∀ b, S b → b < B) : KeepP S W W' := fun b hb => h.block b (hS b hb)
theorem KeepP.setCell {S : Nat → Prop} {W W' : World} (h : KeepP S W W') {a : Addr} (ha : ¬ S a.block) (u : Value) : KeepP S W (W'.setCell a u) := fun b hb => (Below.heap_setCell W' a u b (fun e => ha (e ▸ hb))).trans (h b hb)
theorem KeepP.grown {S : Nat → Prop} {W W' W2 : World} {row : Option Nat} (h : KeepP S W W') (hg : W'.grownBy W2 row) (hS : ∀ b, S b → b < W'.heap.size) (hr : ∀ r, row = some r → ¬ S r) : KeepP S W W2 :=
 fun b hb => (hg.block b (hS b hb) (fun e => hr b e.symm hb)).trans (h b hb)
theorem postM_ret {F : Fence} {n : Nat} {P : Program} {fn : Func} {R : Ending → World → Prop} {a : Act} {w : World} {v : Value} (hr : (results fn a.tmps).run P w = .ok v w) (hd : a.defers = []) (hR : R (.returned v) w) : bodyPostM F n P fn R .ret a w := by
 show LeavesInM F n P fn a.tmps R a.defers .returning w
 rw [hd]; exact ⟨v, hr, hR⟩
theorem postM_mark {F : Fence} {n : Nat} {P : Program} {fn : Func} {R : Ending → World → Prop} {a : Act} {w : World} {v : Value} {D : Nat} (hD : w.heap[D]? = some (.deferred (some [])))
  (hr : (results fn a.tmps).run P (w.putObj D (.deferred none)) = .ok v (w.putObj D (.deferred none))) (hd : a.defers = [{ target := .collected D, args := #[] }]) (hR : R (.returned v) (w.putObj D (.deferred none))) : bodyPostM F n P fn R .ret a w := by
 show LeavesInM F n P fn a.tmps R a.defers .returning w
 rw [hd]
 exact ⟨by simp, .inl ⟨_, _, rfl, run_takeDeferred hD, v, hr, hR⟩⟩
/-! ### A region that draws its order and only reads, within a round -/
theorem grownBy_trans {a b c : World} {row : Option Nat} (h : a.grownBy b row) (k : b.grownBy c row) : a.grownBy c row :=
 ⟨k.os.trans h.os, k.tape.trans h.tape, k.output.trans h.output, Nat.le_trans h.size k.size, fun i hi hne => (k.block i (Nat.lt_of_lt_of_le hi h.size) hne).trans (h.block i hi hne)⟩
/-! ### append of one element, which the statement lays into a block of its own -/
section
variable {P : Program} (W : World)
theorem wpListIn_append1 {F : Fence} {m : Nat} {ops : Array Oper} {rest : List Oper} {o : Oper} {a : Act} {Q : Exit → Act → World → Prop} (hg : o.guard = none) (s x : Operand) (t : TypeId)
  (hop : o.op = .call { callee := .builtin .append, args := #[s, x], argTypes := #[t, t] })
  (base : Nat) (e : TypeId) (i : TypeInfo) (z : Value) (bytes : Nat) (ht : P.underlying t = some (.slice e)) (hi : P.info? e = some i) (hz : i.zero = some z)
  (hsize : i.size = 1) (hby : i.bytes = bytes) (hzs : z.cells.size = 1)
  (v : Value) (n : Nat) (xs : List Value) (hs : a.eval s = v) (hown : W.owns base e 1 v n xs) (u : Value) (H : Nat) (hH : W.heap.size = H) (hx : a.eval x = .slice (some ⟨H, 0, none⟩) 1 1) (h1 : u.oneCell' = true)
  (h63 : n + 1 ≤ maxLen) (hbytes : (n + 1) * bytes ≤ 140737488355328) (hbase : base ≤ W.heap.size)
  (h : ∀ v' w', w'.owns base e 1 v' (n + 1) (xs ++ [u]) → (W.alloc (.cells #[u] e)).grownBy w' v.ownBlock → W.grownBy w' v.ownBlock → W.heap.size < w'.heap.size → wpListIn F m P ops Q rest (a.put o.dst v') w') : wpListIn F m P ops Q (o :: rest) a (W.alloc (.cells #[u] e)) := by
 subst hH
 refine wpListIn_plain hg fun K hK' => ?_
 obtain ⟨v', w', hrun, h2, h3, _⟩ := run_append_owns (P := P) (W.alloc (.cells #[u] e)) base t o.type e i z 1 bytes ht hi hz hsize hby hzs (by decide) v n xs (hown.alloc _) ⟨W.heap.size, 0, none⟩ 1 1 [u] rfl (news_alloc W [u] e) (by simpa using h1) h63 hbytes (by simp; omega)
 unfold Oper.wpIn
 refine ⟨?_, ?_⟩
 ·simp [Oper.about, hop, resolve, Target.leads, Sem.run_pure]
 ·rw [Oper.semAt_plain F _ _ (by rw [hop]; intro c hc'; cases hc')]
  simp [execOp, hop, resolve, invoke, builtin, hs, hx, hrun, Result.andThen]
  exact hK' _ _ (h v' w' h2 h3 (grownBy_trans (World.grownBy_alloc W _ _) h3) (by have := h3.size; simp at this; omega))
theorem wpList_append1 {ops : Array Oper} {rest : List Oper} {o : Oper} {a : Act} {Q : Exit → Act → World → Prop} (hg : o.guard = none) (s x : Operand) (t : TypeId)
  (hop : o.op = .call { callee := .builtin .append, args := #[s, x], argTypes := #[t, t] })
  (base : Nat) (e : TypeId) (i : TypeInfo) (z : Value) (bytes : Nat) (ht : P.underlying t = some (.slice e)) (hi : P.info? e = some i) (hz : i.zero = some z)
  (hsize : i.size = 1) (hby : i.bytes = bytes) (hzs : z.cells.size = 1)
  (v : Value) (n : Nat) (xs : List Value) (hs : a.eval s = v) (hown : W.owns base e 1 v n xs) (u : Value) (H : Nat) (hH : W.heap.size = H) (hx : a.eval x = .slice (some ⟨H, 0, none⟩) 1 1) (h1 : u.oneCell' = true)
  (h63 : n + 1 ≤ maxLen) (hbytes : (n + 1) * bytes ≤ 140737488355328) (hbase : base ≤ W.heap.size)
  (h : ∀ v' w', w'.owns base e 1 v' (n + 1) (xs ++ [u]) → (W.alloc (.cells #[u] e)).grownBy w' v.ownBlock → W.grownBy w' v.ownBlock → W.heap.size < w'.heap.size → wpList P ops Q rest (a.put o.dst v') w') : wpList P ops Q (o :: rest) a (W.alloc (.cells #[u] e)) := by
 subst hH
 refine wpList_plain hg fun K hK' => ?_
 obtain ⟨v', w', hrun, h2, h3, _⟩ := run_append_owns (P := P) (W.alloc (.cells #[u] e)) base t o.type e i z 1 bytes ht hi hz hsize hby hzs (by decide) v n xs (hown.alloc _) ⟨W.heap.size, 0, none⟩ 1 1 [u] rfl (news_alloc W [u] e) (by simpa using h1) h63 hbytes (by simp; omega)
 unfold Oper.wp execOp
 simp only [hop, resolve, invoke, builtin, Sem.run_bind, Sem.run_pure, Result.andThen_ok, List.map_toArray, List.map_cons, List.map_nil, hs, hx, hrun]
 exact hK' _ _ (h v' w' h2 h3 (grownBy_trans (World.grownBy_alloc W _ _) h3) (by have := h3.size; simp at this; omega))
end
/-- An owned row lies on where blocks of cells of its type do. -/
theorem World.owns.keptBy {w w' : World} {base : Nat} {e : TypeId} {size : Nat} {v : Value} {n : Nat} {xs : List Value} (h : w.owns base e size v n xs) (hk : ∀ (g : Nat) (c : Array Value) (fz : Nat × Nat), v.ownBlock = some g → w.heap[g]? = some (.cells c e fz) → w'.heap[g]? = w.heap[g]?) : w'.owns base e size v n xs := by
 refine ⟨h.1, ?_⟩
 rcases h.2 with hn | ⟨g, cap, cur, fz, rfl, hb, hgg, rest⟩
 ·exact .inl hn
 ·exact .inr ⟨g, cap, cur, fz, rfl, hb, (hk g cur fz rfl hgg).trans hgg, rest⟩
end Go
/- A region that draws its order, reads and at its end stores, within a round. -/
namespace Go
open RowKit
/-- The last operation waits for all others. -/
def lastB (ops : Array Oper) (L : Nat) : Bool := (List.range L).all fun i => ((ops[L]?).map fun o => o.after.any fun e => Region.binds .any e && e.on == i).getD false
end Go
/- append of a slice that reads as a list, nil or not, to a row that is owned. -/
namespace Go
open RowKit
theorem below_grown {w w' : World} {base : Nat} {e : TypeId} {v : Value} {n : Nat} {xs : List Value} {size : Nat} (h : w.owns base e size v n xs) (hg : w.grownBy w' v.ownBlock) (B : Nat) (hB : B ≤ base) (hBs : B ≤ w.heap.size) : Below B w w' :=
 ⟨hg.os, hg.tape, hg.output, hg.size, fun i hi => hg.block i (by omega) (fun e => by have := (h.lt i e.symm).1; omega)⟩
end Go
/- Rows that a function makes and appends to a list of its own. -/
/- A row of an owned slice of rows is replaced. -/
/- A region that draws its order, whose operations come one behind the other once what only reads is taken first, and whose last one stores. -/
namespace Go
open RowKit
section
variable {P : Program} {ops : Array Oper} {Q : Exit → Act → World → Prop} {S : World → Prop} {L : Nat}
/-- As in a held region; behind the operation L nothing is asked. -/
def wpAnyT (P : Program) (ops : Array Oper) (Q : Exit → Act → World → Prop) (S : World → Prop) (L : Nat) : Nat → Array Bool → Act → World → Prop
 | 0, listed, a, w => Region.ready .any ops listed = [] ∧ Q .normal a w
 | fuel + 1, listed, a, w =>
  (Region.ready .any ops listed = [] → Q .normal a w) ∧
  ∀ i ∈ Region.ready .any ops listed, wpOp P ops Q i (fun a' w' => (i ≠ L → S w') ∧ wpAnyT P ops Q S L fuel (listed.setIfInBounds i true) a' w') a w
theorem last_listed {i : Nat} {listed : Array Bool} (hlast : lastB ops L = true) (hi : i < L) (hr : L ∈ Region.ready .any ops listed) : listed.getD i false = true := by
 rw [mem_ready] at hr
 obtain ⟨-, oL, hoL, h3⟩ := hr
 unfold lastB at hlast
 rw [List.all_eq_true] at hlast
 have h4 := hlast i (List.mem_range.2 hi)
 rw [hoL, Option.map_some, Option.getD_some, Array.any_eq_true] at h4
 obtain ⟨k, hk, h5⟩ := h4
 rw [Bool.and_eq_true] at h5
 have h6 := h3 _ (Array.getElem_mem hk) h5.1
 rw [beq_iff_eq.1 h5.2] at h6
 exact h6
theorem unlisted_not {i : Nat} {listed : Array Bool} (h1 : listed.getD i true = false) (h2 : listed.getD i false = true) : False := by
 rcases Nat.lt_or_ge i listed.size with h | h
 ·simp [h] at h1 h2; rw [h1] at h2; cases h2
 ·simp [Array.getElem?_eq_none h] at h1
theorem wpAnyT_first {i : Nat} {oi : Oper} {v : Value} (hL : ops.size = L + 1) (hlast : lastB ops L = true) (hiL : i < L) (hi : ops[i]? = some oi) (hsel : ∀ (j : Nat) (o : Oper) cs b, ops[j]? = some o → o.op ≠ .select cs b)
  (hQ : ∀ c a w, Q (.panic c) (a.put oi.dst v) w → Q (.panic c) a w) :
  ∀ (fuel : Nat) (listed : Array Bool) (a : Act) (w : World),
   (∀ j oj, ops[j]? = some oj → j ≠ i → listed.getD j true = false → (∀ e ∈ oj.after, Region.binds .any e = true → e.on ≠ i) → oi.apart ops oj = true) →
   i ∈ Region.ready .any ops listed → YieldsIf P ops S oi v a → S w →
   wpAnyT P ops Q S L fuel (listed.setIfInBounds i true) (a.put oi.dst v) w → wpAnyT P ops Q S L (fuel + 1) listed a w := by
 intro fuel
 induction fuel with
 | zero =>
  intro listed a w _ hr hy hS H
  refine ⟨fun h => (by rw [h] at hr; cases hr), fun j hj => ?_⟩
  by_cases hji : j = i
  ·subst hji; exact hy.wpOp hi hS ⟨fun _ => hS, H⟩
  ·have := ready_mono hj hji
   rw [H.1] at this
   cases this
 | succ fuel ih =>
  intro listed a w hfree hr hy hS H
  refine ⟨fun h => (by rw [h] at hr; cases hr), fun j hj => ?_⟩
  by_cases hji : j = i
  ·subst hji; exact hy.wpOp hi hS ⟨fun _ => hS, H⟩
  ·have hjL : j ≠ L := by
    rintro rfl
    exact unlisted_not (mem_ready.1 hr).1 (last_listed hlast hiL hj)
   have h1 := H.2 j (ready_mono hj hji)
   obtain ⟨hjun, oj, hoj, hall⟩ := mem_ready.1 hj
   have hnot : ∀ e ∈ oj.after, Region.binds .any e = true → e.on ≠ i := fun e he hb heq => by
    have h1 := hall e he hb
    rw [heq] at h1
    exact unlisted_not (mem_ready.1 hr).1 h1
   have h2 := wpOp_putIf hoj (hfree j oj hoj hji hjun hnot) (fun cs b => hsel i oi cs b hi) (fun cs b => hsel j oj cs b hoj) hQ hy h1
   have hfree' : ∀ k ok, ops[k]? = some ok → k ≠ i → (listed.setIfInBounds j true).getD k true = false →
     (∀ e ∈ ok.after, Region.binds .any e = true → e.on ≠ i) → oi.apart ops ok = true := fun k ok hk hki hun hno => by
    refine hfree k ok hk hki ?_ hno
    by_cases hjk : j = k
    ·subst hjk; exact hjun
    ·rw [getD_set_ne true hjk] at hun; exact hun
   refine wpOp_mono (fun a' w' h3 => ⟨h3.2.1, ih (listed.setIfInBounds j true) a' w' hfree' (ready_mono hr (Ne.symm hji)) h3.1 (h3.2.1 hjL) ?_⟩) h2
   rw [Array.setIfInBounds_comm _ _ hji]
   exact h3.2.2
theorem wpAnyT_take (i : Nat) {oi : Oper} {v : Value} {fuel : Nat} {listed : Array Bool} {a : Act} {w : World} (hr : (Region.ready .any ops listed).contains i = true) (hL : ops.size = L + 1) (hlast : lastB ops L = true) (hiL : i < L) (hi : ops.toList[i]? = some oi)
  (hs : Region.noSelect ops = true) (hf : Region.free .any ops listed i = true)
  (hQ : ∀ c a w, Q (.panic c) (a.put oi.dst v) w → Q (.panic c) a w) (hy : YieldsIf P ops S oi v a) (hS : S w)
  (h : wpAnyT P ops Q S L fuel (listed.setIfInBounds i true) (a.put oi.dst v) w) : wpAnyT P ops Q S L (fuel + 1) listed a w :=
 wpAnyT_first hL hlast hiL (by simpa using hi) (Region.noSelect_spec hs) hQ fuel listed a w (Region.free_spec (by simpa using hi) hf) (by simpa using hr) hy hS h
theorem tkT (i : Nat) {oi : Oper} {v : Value} {fuel : Nat} {listed : Array Bool} {a : Act} {w : World} (hi : ops.toList[i]? = some oi) (hL : ops.size = L + 1) (hrun : ∀ w, S w → (execOp a.eval oi).run P w = .ok (.value v) w)
  (h : wpAnyT P ops Q S L fuel (listed.setIfInBounds i true) (a.put oi.dst v) w) (hr : (Region.ready .any ops listed).contains i = true := by kernel_rfl) (hs : Region.noSelect ops = true := by kernel_rfl) (hf : Region.free .any ops listed i = true := by kernel_rfl) (hQ : ∀ c a w, Q (.panic c) (a.put oi.dst v) w → Q (.panic c) a w := by exact fun _ _ _ h => h) (hw : Region.wanted oi (yielded ops a.tmps) = true := by rfl) (hlast : lastB ops L = true := by kernel_rfl) (hiL : i < L := by decide) (hS : S w := by assumption) : wpAnyT P ops Q S L (fuel + 1) listed a w :=
 wpAnyT_take i hr hL hlast hiL hi hs hf hQ (Or.inl ⟨hw, hrun⟩) hS h
end
end Go
namespace Go
theorem q0P (a : Act) (d : Tmp) (v : Value) : a.put (some d) v = { a with tmps := a.tmps.setIfInBounds d v } := rfl
theorem q0Q {α : Type} (l : List α) (i : Nat) (a : α) : l.toArray.setIfInBounds i a = (l.set i a).toArray := List.setIfInBounds_toArray l i a
theorem q0R {α : Type} (x : α) (xs : List α) (a : α) : (x :: xs).set 0 a = a :: xs := rfl
theorem q0S {α : Type} (x : α) (xs : List α) (i : Nat) (a : α) : (x :: xs).set (i + 1) a = x :: xs.set i a := rfl
end Go
/- The sponge, as a plain function. -/
/- Words of 64 bits as BitVec: what the operations of the model do on them. -/
namespace Go
/-- A word's number. -/
def wv (x : BitVec 64) : Int := (x.toNat : Int)
/-- The operations on words, under names that no simplifier looks into. -/
def wxor (x y : BitVec 64) : BitVec 64 := x ^^^ y
def wand (x y : BitVec 64) : BitVec 64 := x &&& y
def wor (x y : BitVec 64) : BitVec 64 := x ||| y
def wnot (x : BitVec 64) : BitVec 64 := ~~~x
def wshl (x : BitVec 64) (n : Nat) : BitVec 64 := x <<< n
def wshr (x : BitVec 64) (n : Nat) : BitVec 64 := x >>> n
def wof (n : Int) : BitVec 64 := BitVec.ofInt 64 n
theorem u64_wrap_of_lt (n : Nat) : IntKind.u64.wrap (n : Int) = ((n % 2 ^ 64 : Nat) : Int) := by
 rw [IntKind.wrap_u64]; omega
theorem u64_wrap_wv (x : BitVec 64) : IntKind.u64.wrap (wv x) = wv x := by
 unfold wv; rw [u64_wrap_of_lt, Nat.mod_eq_of_lt x.isLt]
theorem ofInt_wv (x : BitVec 64) : BitVec.ofInt 64 (wv x) = x := by
 unfold wv; rw [BitVec.ofInt_natCast, BitVec.ofNat_toNat, BitVec.setWidth_eq]
theorem wv_lit (n : Int) (h : 0 ≤ n ∧ n < 18446744073709551616) : n = wv (wof n) := by
 unfold wv wof
 obtain ⟨m, rfl⟩ := Int.eq_ofNat_of_zero_le h.1
 rw [BitVec.ofInt_natCast, BitVec.toNat_ofNat, Nat.mod_eq_of_lt (by omega)]
section
variable (x y : BitVec 64)
theorem wor_comm : wor x y = wor y x := BitVec.or_comm x y
theorem xor_wv : bits .xor .u64 (wv x) (wv y) = wv (wxor x y) := by
 show IntKind.u64.wrap ((BitVec.ofInt 64 (wv x) ^^^ BitVec.ofInt 64 (wv y)).toNat : Int) = _
 rw [ofInt_wv, ofInt_wv]; exact u64_wrap_wv _
theorem and_wv : bits .and .u64 (wv x) (wv y) = wv (wand x y) := by
 show IntKind.u64.wrap ((BitVec.ofInt 64 (wv x) &&& BitVec.ofInt 64 (wv y)).toNat : Int) = _
 rw [ofInt_wv, ofInt_wv]; exact u64_wrap_wv _
theorem or_wv : bits .or .u64 (wv x) (wv y) = wv (wor x y) := by
 show IntKind.u64.wrap ((BitVec.ofInt 64 (wv x) ||| BitVec.ofInt 64 (wv y)).toNat : Int) = _
 rw [ofInt_wv, ofInt_wv]; exact u64_wrap_wv _
theorem not_wv : bits .xor .u64 IntKind.u64.max (wv x) = wv (wnot x) := by
 show IntKind.u64.wrap ((BitVec.ofInt 64 IntKind.u64.max ^^^ BitVec.ofInt 64 (wv x)).toNat : Int) = _
 have : BitVec.ofInt 64 IntKind.u64.max = BitVec.allOnes 64 := by decide
 rw [ofInt_wv, this, BitVec.allOnes_xor]; exact u64_wrap_wv _
end
end Go
namespace Go
/-- The bits of a word, moved to the right by k, and round. -/
def rotr (x : BitVec 64) (k : Nat) : BitVec 64 := wor (wshr x k) (wshl x (64 - k))
theorem shl_nf (x : BitVec 64) (n : Nat) : IntKind.u64.wrap (wv x * 2 ^ n) = wv (wshl x n) := by
 unfold wv wshl
 rw [BitVec.toNat_shiftLeft, Nat.shiftLeft_eq, ← u64_wrap_of_lt]
 congr 1
theorem shr_nf (x : BitVec 64) (n : Nat) : wv x / 2 ^ n = wv (wshr x n) := by
 unfold wv wshr
 rw [BitVec.toNat_ushiftRight, Nat.shiftRight_eq_div_pow]
 simp
theorem and63 (a : Int) (h : 0 < a ∧ a < 64) : bits .and .u64 (IntKind.u64.wrap (-a)) 63 = 64 - a := by
 have H : ∀ n : Fin 64, 0 < n.val → bits .and .u64 (IntKind.u64.wrap (-(n.val : Int))) 63 = 64 - (n.val : Int) := by decide +kernel
 obtain ⟨m, rfl⟩ := Int.eq_ofNat_of_zero_le (Int.le_of_lt h.1)
 exact H ⟨m, by omega⟩ (by simp; omega)
end Go
/- The permutation and the sponge, in plain Lean. -/
namespace Go
/-- Five words. -/
structure St where
 a : BitVec 64
 b : BitVec 64
 c : BitVec 64
 d : BitVec 64
 e : BitVec 64
/-- Five words as a value. -/
abbrev St.val (s : St) : Value := .agg #[.int .u64 (wv s.a), .int .u64 (wv s.b), .int .u64 (wv s.c), .int .u64 (wv s.d), .int .u64 (wv s.e)]
/-- The cells of five words. -/
abbrev St.cells (s : St) : Array Value := #[.int .u64 (wv s.a), .int .u64 (wv s.b), .int .u64 (wv s.c), .int .u64 (wv s.d), .int .u64 (wv s.e)]
def turn (x : BitVec 64) (a b : Nat) : BitVec 64 := wxor (wxor x (rotr x a)) (rotr x b)
/-- The second and third step. -/
def St.mix (x : St) (c : BitVec 64) : St :=
 let y : St := ⟨wxor x.a x.e, x.b, wxor (wxor x.c c) x.b, x.d, wxor x.e x.d⟩
 ⟨wxor y.a (wand (wnot y.b) y.c), wxor y.b (wand (wnot y.c) y.d), wxor y.c (wand (wnot y.d) y.e), wxor y.d (wand (wnot y.e) y.a), wxor y.e (wand (wnot y.a) y.b)⟩
/-- The fourth step. -/
def St.sub (y : St) : St := ⟨wxor y.a y.e, wxor y.b y.a, wnot y.c, wxor y.d y.c, y.e⟩
def St.lin (y : St) : St := ⟨turn y.a 19 28, turn y.b 61 39, turn y.c 1 6, turn y.d 10 17, turn y.e 7 41⟩
def St.round (x : St) (c : BitVec 64) : St := ((x.mix c).sub).lin
/-- The constant of round i. -/
def rc (i : Nat) : BitVec 64 := wof ((240 - 15 * i : Nat) : Int)
/-- The last k of the twelve rounds. -/
def St.perm : Nat → St → St
 | 0, x => x
 | k + 1, x => St.perm k (x.round (rc (11 - k)))
/-- A block of five words. -/
theorem five_cells {w : World} {b : Nat} {v0 v1 v2 v3 v4 : Value} {t : TypeId} (h : w.heap[b]? = some (.cells #[v0, v1, v2, v3, v4] t)) :
  w.cell? ⟨b, 0, none⟩ = some v0 ∧ w.cell? ⟨b, 1, none⟩ = some v1 ∧ w.cell? ⟨b, 2, none⟩ = some v2 ∧ w.cell? ⟨b, 3, none⟩ = some v3 ∧ w.cell? ⟨b, 4, none⟩ = some v4 ∧
  w.frozen? ⟨b, 0, none⟩ = false ∧ w.frozen? ⟨b, 1, none⟩ = false ∧ w.frozen? ⟨b, 2, none⟩ = false ∧ w.frozen? ⟨b, 3, none⟩ = false ∧ w.frozen? ⟨b, 4, none⟩ = false ∧ b < w.heap.size := by
 have hb : b < w.heap.size := by
  rcases Nat.lt_or_ge b w.heap.size with h' | h'
  ·exact h'
  ·rw [Array.getElem?_eq_none h'] at h; cases h
 exact ⟨by simp [World.cell?, h], by simp [World.cell?, h], by simp [World.cell?, h], by simp [World.cell?, h], by simp [World.cell?, h],
  by simp [World.frozen?, h], by simp [World.frozen?, h], by simp [World.frozen?, h], by simp [World.frozen?, h], by simp [World.frozen?, h], hb⟩
theorem set_five {w : World} {b : Nat} {v0 v1 v2 v3 v4 u0 u1 u2 u3 u4 : Value} {t : TypeId} (h : w.heap[b]? = some (.cells #[v0, v1, v2, v3, v4] t)) :
  (((((w.setCell ⟨b, 0, none⟩ u0).setCell ⟨b, 1, none⟩ u1).setCell ⟨b, 2, none⟩ u2).setCell ⟨b, 3, none⟩ u3).setCell ⟨b, 4, none⟩ u4).heap[b]? = some (.cells #[u0, u1, u2, u3, u4] t) := by
 simp [World.setCell, Array.getElem?_modify, h]
/-! ### The words of a string -/
/-- A byte as a word. -/
def bw (b : UInt8) : BitVec 64 := wof (b.toNat : Int)
/-- The byte of a padded string at an index. -/
def padByte (s : ByteArray) (j : Nat) : BitVec 64 := if h : j < s.size then bw s[j] else if j = s.size then wof 128 else wof 0
/-- The first k bytes of the word at an index. -/
def wordTo (s : ByteArray) (at_ : Nat) : Nat → BitVec 64
 | 0 => wof 0
 | k + 1 => wor (wshl (wordTo s at_ k) 8) (padByte s (at_ + k))
def word (s : ByteArray) (i : Nat) : BitVec 64 := wordTo s (8 * i) 8
def words (s : ByteArray) : List (BitVec 64) := (List.range (s.size / 8 + 1)).map (word s)
/-- A string's words are taken in. -/
def St.absorb (x : St) : List (BitVec 64) → St
 | [] => x
 | w :: ws => St.absorb (St.perm 12 { x with a := wxor x.a w }) ws
theorem wor_zero (x : BitVec 64) : wor x (wof 0) = x := by
 unfold wor wof; simp
theorem shl_8 (x : BitVec 64) : IntKind.u64.wrap (wv x * 256) = wv (wshl x 8) := by
 have := shl_nf x 8
 simpa using this
theorem or_byte (x : BitVec 64) (b : UInt8) : bits .or .u64 (wv x) ((b.toNat : Nat) : Int) = wv (wor x (bw b)) := by
 have h := wv_lit (b.toNat : Int) (by have := b.toNat_lt; omega)
 rw [h, or_wv]; rfl
theorem or_128 (x : BitVec 64) : bits .or .u64 (wv x) 128 = wv (wor x (wof 128)) := by
 rw [wv_lit 128 (by omega), or_wv]; rfl
theorem or_byte_wrap (x : BitVec 64) (b : UInt8) : bits .or .u64 (wv x) (IntKind.u64.wrap ((b.toNat : Nat) : Int)) = wv (wor x (bw b)) := by
 rw [IntWalk.u64_in _ (by have := b.toNat_lt; omega), or_byte]
theorem wordTo_in (s : ByteArray) (a m : Nat) (h : a + m < s.size) : wordTo s a (m + 1) = wor (wshl (wordTo s a m) 8) (bw s[a + m]) := by
 rw [wordTo, padByte, dif_pos h]
theorem wordTo_at (s : ByteArray) (a m : Nat) (h : a + m = s.size) : wordTo s a (m + 1) = wor (wshl (wordTo s a m) 8) (wof 128) := by
 rw [wordTo, padByte, dif_neg (by omega), if_pos h]
theorem wordTo_past (s : ByteArray) (a m : Nat) (h : s.size < a + m) : wordTo s a (m + 1) = wshl (wordTo s a m) 8 := by
 rw [wordTo, padByte, dif_neg (by omega), if_neg (by omega), wor_zero]
/-- The first word, by kind. -/
def letters : Int := 8026104356937031936
def St.init (kd : Nat) : St := St.perm 12 ⟨wof (letters + kd), wof 0, wof 0, wof 0, wof 0⟩
def St.start (s : ByteArray) (kd : Nat) : St := St.absorb (St.init kd) (words s)
/-- The eight bytes of a word, the highest first. -/
def wbyte (x : BitVec 64) (k : Nat) : UInt8 := UInt8.ofNat (x.toNat / 2 ^ (56 - 8 * k))
def wbytes (x : BitVec 64) (m : Nat) : List UInt8 := (List.range m).map (wbyte x)
/-- The state behind m permutations. -/
def St.iter (x : St) : Nat → St
 | 0 => x
 | m + 1 => St.perm 12 (St.iter x m)
/-- The first m words of the result. -/
def St.squeeze (x : St) : Nat → List UInt8
 | 0 => []
 | m + 1 => St.squeeze x m ++ wbytes (St.iter x m).a 8
def bytesOf (l : List UInt8) : ByteArray := ⟨l.toArray⟩
/-- The first n bytes of the result of the sponge. -/
def runB (s : ByteArray) (kd n : Nat) : ByteArray := bytesOf ((St.squeeze (St.start s kd) ((n + 7) / 8)).take n)
theorem wbyte_num (x : BitVec 64) (k : Nat) (m : Nat) (hm : m = 56 - 8 * k) : IntKind.u8.wrap (wv (wshr x m)) = ((wbyte x k).toNat : Int) := by
 subst hm
 unfold wbyte wshr wv
 rw [IntKind.wrap_u8, UInt8.toNat_ofNat']
 rw [BitVec.toNat_ushiftRight, Nat.shiftRight_eq_div_pow]
 omega
theorem wbytes_succ (x : BitVec 64) (k : Nat) : wbytes x (k + 1) = wbytes x k ++ [wbyte x k] := by simp [wbytes, List.range_succ]
theorem wbytes_length (x : BitVec 64) (k : Nat) : (wbytes x k).length = k := by simp [wbytes]
theorem squeeze_length (x : St) (m : Nat) : (St.squeeze x m).length = 8 * m := by
 induction m with
 | zero => rfl
 | succ m ih => simp [St.squeeze, ih, wbytes_length]; omega
/-- A byte as a value. -/
abbrev byteV (b : UInt8) : Value := .int .u8 (b.toNat : Int)
/-- A slice's length. -/
def lenOf : Value → Nat | .slice _ l _ => l | _ => 0
end Go
/- Plain facts on bytes and slices. -/
namespace Go
open RowKit
theorem ownsRow_cap {w : World} {base e : Nat} {g len cap n : Nat} {xs : List Value} (h : w.ownsRow base e 1 (.slice (some ⟨g, 0, none⟩) len cap) n xs) : len = n ∧ n ≤ cap ∧ base ≤ g ∧ cap ≤ maxLen := by
 rcases h.2 with ⟨h0, _⟩ | ⟨g', cap', cur, hv, hb, _, hle, hm, _⟩
 ·cases h0
 ·cases hv; exact ⟨rfl, hle, hb, hm⟩
/-- An owned row of bytes, cut at its head and made a string. -/
theorem run_row_string {P : Program} {w : World} {base g len cap n m : Nat} {l : List UInt8} (src dst e : TypeId) (hs : P.underlying src = some (.slice e)) (he : P.underlying e = some (.int .u8)) (hd : P.underlying dst = some .string)
  (h : w.ownsRow base e 1 (.slice (some ⟨g, 0, none⟩) len cap) n (l.map byteV)) (hm : m ≤ l.length) (c : Nat) :
  (convert src dst (.slice (some ⟨g, 0, none⟩) m c)).run P w = .ok (.string (bytesOf (l.take m))) w := by
 have hc := h.cells rfl
 have := run_convert_bytes_back (P := P) w src dst e ⟨g, 0, none⟩ c (l.take m) hs he hd (fun j hj => by
  have hj' : j < l.length := by simp at hj; omega
  refine hc j _ ?_
  simp [hj'])
 rw [List.length_take, Nat.min_eq_left hm] at this
 exact this
theorem ownsRow_of_below {w w' : World} {base e size n : Nat} {v : Value} {xs : List Value} (h : w.ownsRow base e size v n xs) (hb : Below w.heap.size w w') : w'.ownsRow base e size v n xs := by
  refine ⟨h.1, ?_⟩
  rcases h.2 with h2 | ⟨g, cap, cur, hv, hg, hh, r⟩
  · exact Or.inl h2
  · refine Or.inr ⟨g, cap, cur, hv, hg, ?_, r⟩
    rw [hb.block g (by rcases Nat.lt_or_ge g w.heap.size with h' | h'
                       · exact h'
                       · rw [Array.getElem?_eq_none h'] at hh; cases hh)]
    exact hh
theorem wbyte_num' (x : BitVec 64) (k m : Nat) (hm : m = 56 - 8 * k) : wv (wshr x m) % 256 = ((wbyte x k).toNat : Int) := by
 rw [← wbyte_num x k m hm, IntKind.wrap_u8]
end Go
/- Plain facts: the padded string as a list of bytes. -/
namespace Go
/-- The string, the byte 80, and j bytes 0. -/
def padL (s : ByteArray) (j : Nat) : List UInt8 := s.data.toList ++ [128] ++ List.replicate j 0
theorem padL_succ (s : ByteArray) (j : Nat) : padL s (j + 1) = padL s j ++ [0] := by
 simp [padL, List.replicate_succ', List.append_assoc]
theorem padL_byte (s : ByteArray) (j k : Nat) (h : k < s.size + 1 + j) : ∃ b, (padL s j)[k]? = some b ∧ bw b = padByte s k := by
 unfold padL padByte
 by_cases h1 : k < s.size
 ·refine ⟨s[k], ?_, by rw [dif_pos h1]⟩
  rw [List.append_assoc, List.getElem?_append_left (by simpa using h1)]
  have : k < s.data.toList.length := by simpa using h1
  rw [List.getElem?_eq_getElem this]; rfl
 ·rw [dif_neg h1]
  have hl : s.data.toList.length = s.size := by simp
  by_cases h2 : k = s.size
  ·subst h2
   refine ⟨128, ?_, by rw [if_pos rfl]; rfl⟩
   rw [List.append_assoc, List.getElem?_append_right (by omega)]
   simp [hl]
  ·refine ⟨0, ?_, by rw [if_neg h2]; rfl⟩
   rw [List.append_assoc, List.getElem?_append_right (by omega), hl, List.getElem?_append_right (by simp; omega)]
   simp only [List.length_singleton]
   rw [List.getElem?_replicate, if_pos (by omega)]
theorem absorb_snoc' (x : St) (l : List (BitVec 64)) (w : BitVec 64) : St.absorb x (l ++ [w]) = St.perm 12 { St.absorb x l with a := wxor (St.absorb x l).a w } := by
 induction l generalizing x with
 | nil => rfl
 | cons v l ih => exact ih _
def uptoW (s : ByteArray) (k : Nat) : List (BitVec 64) := (List.range k).map (word s)
theorem uptoW_succ (s : ByteArray) (k : Nat) : uptoW s (k + 1) = uptoW s k ++ [word s k] := by simp [uptoW, List.range_succ]
theorem padL_zero (s : ByteArray) : Lib.strCells s ++ [Value.int .u8 128] = (padL s 0).map byteV := by
 simp [padL, Lib.strCells, byteV]
end Go
/- Plain facts: lists of strings. -/
namespace Go
theorem str_beq (x y : ByteArray) (h : x = y) : (x.toList == y.toList) = true := by rw [h]; exact beq_self_eq_true _
theorem toList_inj {x y : ByteArray} (h : x.toList = y.toList) : x = y := by
 rw [ByteArray.toList_eq, ByteArray.toList_eq] at h
 exact ByteArray.ext (Array.ext' h)
theorem str_bne (x y : ByteArray) (h : x ≠ y) : (x.toList == y.toList) = false := by
 rw [beq_eq_false_iff_ne]; exact fun e => h (toList_inj e)
theorem take_snoc' {α : Type} (l : List α) (k : Nat) (x : α) (h : l[k]? = some x) : l.take (k + 1) = l.take k ++ [x] := by
 rw [List.take_add_one, h]; rfl
end Go
/- Walks: the round and the permutation. -/
/- Walks of the small functions. -/
namespace Go.Proofs.YtoggmplkbiidhaaGreatDoor
section
open Go.RowKit
attribute [local go_sem] xor_wv and_wv or_wv not_wv shl_nf shr_nf
theorem rotl_any (x : BitVec 64) (a : Int) (ha : 0 < a ∧ a < 64) (w : World) :
  Calls Tryz.prog 123 #[.int .u64 (wv x), .int .i64 (-a)] w fun e w' => e = .returned (.int .u64 (wv (rotr x a.toNat))) ∧ w = w' := by
 have h1 := and63 a ha
 go_enter Tryz.func123, Tryz.ntmps123
 go_wp2
 go_ret
 refine ⟨?_, rfl⟩
 show Ending.returned (.int .u64 (wv (wor _ _))) = _
 rw [rotr, wor_comm]
 have e : (64 - (64 - a)).toNat = a.toNat := by omega
 have e' : (64 - a).toNat = 64 - a.toNat := by omega
 rw [e', e]
theorem rot_any (x : BitVec 64) (a : Int) (ha : 0 < a ∧ a < 64) (w : World) :
  Calls Tryz.prog 124 #[.int .u64 (wv x), .int .i64 a] w fun e w' => e = .returned (.int .u64 (wv (rotr x a.toNat))) ∧ ∃ n, w' = w.drewN n := by
 have h4 : IntKind.i64.wrap (64 - a) = 64 - a := IntWalk.i64_in _ (by omega)
 go_enter Tryz.func124, Tryz.ntmps124
 go_wp2
 go_quiet (fail)
 go_wp2
 go_ret
 refine ⟨?_, _, rfl⟩
 show Ending.returned (.int .u64 (wv (wor _ _))) = _
 rw [rotr]
 have e' : (64 - a).toNat = 64 - a.toNat := by omega
 rw [e']
theorem turn_any (x : BitVec 64) (a b : Int) (ha : 0 < a ∧ a < 64) (hb : 0 < b ∧ b < 64) (w : World) :
  Calls Tryz.prog 122 #[.int .u64 (wv x), .int .i64 a, .int .i64 b] w fun e w' => e = .returned (.int .u64 (wv (turn x a.toNat b.toNat))) ∧ w = w' := by
 go_enter Tryz.func122, Tryz.ntmps122
 go_wp2_with (go_at_call 123; refine (rotl_any _ _ (by assumption) _).mono ?_; rintro e w' ⟨rfl, rfl⟩)
 go_ret
 exact ⟨rfl, rfl⟩
theorem round_any (s : St) (c : BitVec 64) (w : World) :
  Calls Tryz.prog 119 #[s.val, .int .u64 (wv c)] w fun e w' => e = .returned (s.round c).val ∧ Below w.heap.size w w' := by
 obtain ⟨x0, x1, x2, x3, x4⟩ := s
 go_enter Tryz.func119, Tryz.ntmps119
 go_wp2
 refine wp_region_quiet_tail_lit 21 (by kernel_rfl) (by kernel_rfl) ?_
 simp only [List.take_succ_cons, List.take_zero, List.drop_succ_cons, List.drop_zero]
 repeat (go_big_quiet_step ((go_at_call 122; exact Calls.quiet_of_same ((turn_any _ _ _ (by omega) (by omega) _).mono (by rintro _ _ ⟨rfl, rfl⟩; exact ⟨rfl, rfl⟩)))))
 refine wpQuiet_nil ?_
 rintro _ ⟨nq, rfl⟩
 go_wp2
 refine bodyPost_ret (v := (St.round ⟨x0, x1, x2, x3, x4⟩ c).val) ?_ rfl ⟨rfl, ?_⟩
 ·simp [results, Tryz.results119, go_sem]
  simp only [St.round, St.mix, St.sub, St.lin, and_self]
 ·repeat (with_reducible first | apply below_drewN | apply Below.drew | refine Below.setCell ?_ (by simp) _ | refine Below.alloc ?_ (by first | (simp; done) | (simp; omega)) _ | exact Below.refl _ _)
end
/- Walks: the reference's round. -/
section
open Go.RowKit
attribute [local go_sem] xor_wv and_wv or_wv not_wv shl_nf shr_nf
theorem refround_any (s : St) (c : BitVec 64) (w : World) :
  Calls Tryz.prog 121 #[s.val, .int .u64 (wv c)] w fun e w' => e = .returned (s.round c).val ∧ Below w.heap.size w w' := by
 obtain ⟨x0, x1, x2, x3, x4⟩ := s
 go_enter Tryz.func121, Tryz.ntmps121
 go_wp2
 refine wp_loop_rounds 6 ?_
 iterate 5
  rw [rounds_succ]
  go_wp2
  with_reducible first | refine wp_region_quiet_tail_at 18 (by kernel_rfl) (by kernel_rfl) ?_ | refine wp_region_quiet_tail_lit 18 (by kernel_rfl) (by kernel_rfl) ?_
  simp only [List.take_succ_cons, List.take_zero, List.drop_succ_cons, List.drop_zero]
  repeat (go_big_quiet_step (fail))
  refine wpQuiet_nil ?_
  rintro _ ⟨nq, rfl⟩
  go_wp2
 rw [rounds_succ]
 go_wp2
 refine wp_loop_rounds 6 ?_
 iterate 5
  rw [rounds_succ]
  go_wp2
  with_reducible first | refine wp_region_quiet_tail_at 23 (by kernel_rfl) (by kernel_rfl) ?_ | refine wp_region_quiet_tail_lit 23 (by kernel_rfl) (by kernel_rfl) ?_
  simp only [List.take_succ_cons, List.take_zero, List.drop_succ_cons, List.drop_zero]
  repeat (go_big_quiet_step ((go_at_call 124; exact Calls.quiet_of (rot_any _ _ (by omega) _))))
  refine wpQuiet_nil ?_
  rintro _ ⟨nq, rfl⟩
  go_wp2
 rw [rounds_succ]
 go_wp2
 refine bodyPost_ret (v := (St.round ⟨x0, x1, x2, x3, x4⟩ c).val) ?_ rfl ⟨rfl, ?_⟩
 ·simp [results, Tryz.results121, go_sem]
  simp only [St.round, St.mix, St.sub, St.lin, turn, and_self]
 ·repeat (with_reducible first | apply below_drewN | apply Below.drew | refine Below.setCell ?_ (by simp) _ | refine Below.alloc ?_ (by first | (simp; done) | (simp; omega)) _ | exact Below.refl _ _)
end
/- Walks: the permutation, the program's and the reference's. -/
section
open Go.RowKit
attribute [local go_sem] xor_wv and_wv or_wv not_wv shl_nf shr_nf
theorem rc_prog (k : Nat) (hk : k ≤ 11) : bits .or .u64 ((15 - (12 - ((k : Int) + 1))) * 16) (12 - ((k : Int) + 1)) = wv (rc (11 - k)) := by
 have H : ∀ n : Fin 12, bits .or .u64 ((15 - (12 - ((n.val : Int) + 1))) * 16) (12 - ((n.val : Int) + 1)) = wv (rc (11 - n.val)) := by decide +kernel
 exact H ⟨k, by omega⟩
theorem permute_any (s : St) (n : Nat) (hn : n ≤ 12) (w : World) :
  Calls Tryz.prog 104 #[s.val, .int .i64 (n : Int)] w fun e w' => e = .returned (St.perm n s).val ∧ Below w.heap.size w w' := by
 go_enter Tryz.func104, Tryz.ntmps104
 go_wp2
 go_loopw [5] (fun v5 wr => ∃ (k : Nat) (y : St), k ≤ 12 ∧ v5 = .int .i64 ((12 : Int) - k) ∧ St.perm k y = St.perm n s ∧
  wr.heap[w.heap.size]? = some (.cells y.cells 130) ∧ wr.heap[w.heap.size + 1]? = some (.cells #[.int .u64 0, .int .u64 0, .int .u64 0, .int .u64 0, .int .u64 0] 130) ∧ Below w.heap.size w wr) (fun v5 _ => (12 - intOf v5).toNat)
 case atStart =>
  refine ⟨n, s, hn, rfl, rfl, ?_, ?_, ?_⟩
  ·rw [Below.heap_alloc _ _ _ (by simp)]; exact heap_alloc_new _ _
  ·exact alloc_last _ _ (by simp)
  ·repeat (with_reducible first | refine Below.alloc ?_ (by first | (simp; done) | (simp; omega)) _ | exact Below.refl _ _)
 case round =>
  obtain ⟨k, y, hk, rfl, hp, h0, h1, hb⟩ := hrel
  have Hp := Lib.hid hp
  clear hp
  obtain ⟨c0, c1, c2, c3, c4, f0, f1, f2, f3, f4, z0⟩ := five_cells h0
  obtain ⟨d0, d1, d2, d3, d4, e0, e1, e2, e3, e4, z1⟩ := five_cells h1
  rcases k with _ | k
  ·go_wp2
   refine bodyPost_ret (v := y.val) ?_ rfl ⟨?_, ?_⟩
   ·simp [results, Tryz.results104, go_sem, d0, d1, d2, d3, d4]
   ·have := Hp.out
    rw [← this]; rfl
   ·repeat (with_reducible first | apply below_drewN | apply Below.drew | refine Below.setCell ?_ (by first | (simp; done) | (simp; omega)) _ | refine Below.alloc ?_ (by first | (simp; done) | (simp; omega)) _ | exact hb | exact Below.refl _ _)
  ·have hrc := rc_prog k (by omega)
   go_wp2_with fail
   refine (round_any y (rc (11 - k)) _).mono ?_
   rintro e w1 ⟨rfl, hb1⟩
   clear hrc
   obtain ⟨hc, hf⟩ := bcell hb1
   go_wp2
   go_roundw
   case rel =>
    refine ⟨k, y.round (rc (11 - k)), by omega, by go_num, Hp.out, ?_, ?_, ?_⟩
    ·exact set_five (by rw [hb1.block _ z0]; exact h0)
    ·iterate 5 rw [Below.heap_setCell _ _ _ _ (by simp)]
     rw [hb1.block _ z1]; exact h1
    ·have hb2 := hb.trans (hb1.mono (by omega))
     repeat (with_reducible first | apply below_drewN | apply Below.drew | refine Below.setCell ?_ (by first | (simp; done) | (simp; omega)) _ | refine Below.alloc ?_ (by first | (simp; done) | (simp; omega)) _ | exact hb2 | exact Below.refl _ _)
   case measure => simp [intOf]; omega
theorem rc_ref (k : Nat) (hk : k ≤ 11) : (240 : Int) - 15 * (12 - ((k : Int) + 1)) = wv (rc (11 - k)) := by
 have H : ∀ n : Fin 12, (240 : Int) - 15 * (12 - ((n.val : Int) + 1)) = wv (rc (11 - n.val)) := by decide +kernel
 exact H ⟨k, by omega⟩
theorem permuted_any (s : St) (n : Nat) (hn : n ≤ 12) (w : World) :
  Calls Tryz.prog 106 #[s.val, .int .i64 (n : Int)] w fun e w' => e = .returned (St.perm n s).val ∧ Below w.heap.size w w' := by
 go_enter Tryz.func106, Tryz.ntmps106
 go_wp2
 go_loopw [5] (fun v5 wr => ∃ (k : Nat) (y : St), k ≤ 12 ∧ v5 = .int .i64 ((12 : Int) - k) ∧ St.perm k y = St.perm n s ∧
  wr.heap[w.heap.size]? = some (.cells y.cells 129) ∧ wr.heap[w.heap.size + 1]? = some (.cells #[.int .u64 0, .int .u64 0, .int .u64 0, .int .u64 0, .int .u64 0] 129) ∧ Below w.heap.size w wr) (fun v5 _ => (12 - intOf v5).toNat)
 case atStart =>
  refine ⟨n, s, hn, rfl, rfl, ?_, ?_, ?_⟩
  ·rw [Below.heap_alloc _ _ _ (by simp)]; exact heap_alloc_new _ _
  ·exact alloc_last _ _ (by simp)
  ·repeat (with_reducible first | refine Below.alloc ?_ (by first | (simp; done) | (simp; omega)) _ | exact Below.refl _ _)
 case round =>
  obtain ⟨k, y, hk, rfl, hp, h0, h1, hb⟩ := hrel
  have Hp := Lib.hid hp
  clear hp
  obtain ⟨c0, c1, c2, c3, c4, f0, f1, f2, f3, f4, z0⟩ := five_cells h0
  obtain ⟨d0, d1, d2, d3, d4, e0, e1, e2, e3, e4, z1⟩ := five_cells h1
  rcases k with _ | k
  ·go_wp2
   refine bodyPost_ret (v := y.val) ?_ rfl ⟨?_, ?_⟩
   ·simp [results, Tryz.results106, go_sem, d0, d1, d2, d3, d4]
   ·have := Hp.out
    rw [← this]; rfl
   ·repeat (with_reducible first | apply below_drewN | apply Below.drew | refine Below.setCell ?_ (by first | (simp; done) | (simp; omega)) _ | refine Below.alloc ?_ (by first | (simp; done) | (simp; omega)) _ | exact hb | exact Below.refl _ _)
  ·have hrc := rc_ref k (by omega)
   go_wp2_with fail
   refine (refround_any y (rc (11 - k)) _).mono ?_
   rintro e w1 ⟨rfl, hb1⟩
   clear hrc
   obtain ⟨hc, hf⟩ := bcell hb1
   go_wp2
   go_roundw
   case rel =>
    refine ⟨k, y.round (rc (11 - k)), by omega, by go_num, Hp.out, ?_, ?_, ?_⟩
    ·exact set_five (by rw [hb1.block _ z0]; exact h0)
    ·iterate 5 rw [Below.heap_setCell _ _ _ _ (by simp)]
     rw [hb1.block _ z1]; exact h1
    ·have hb2 := hb.trans (hb1.mono (by omega))
     repeat (with_reducible first | apply below_drewN | apply Below.drew | refine Below.setCell ?_ (by first | (simp; done) | (simp; omega)) _ | refine Below.alloc ?_ (by first | (simp; done) | (simp; omega)) _ | exact hb2 | exact Below.refl _ _)
   case measure => simp [intOf]; omega
end
/- Walks: the program's sponge. -/
/- Walks: the iterator over a string's words. -/
section
open Go.RowKit Go.Shelf
attribute [local go_sem] xor_wv and_wv or_wv not_wv shl_nf shr_nf shl_8 or_byte or_128
attribute [local go_sem] Oper.semAt_some
def upto {α : Type} (f : Nat → α) (k : Nat) : List α := (List.range k).map f
theorem upto_succ {α : Type} (f : Nat → α) (k : Nat) : upto f (k + 1) = upto f k ++ [f k] := by simp [upto, List.range_succ]
theorem upto_length {α : Type} (f : Nat → α) (k : Nat) : (upto f k).length = k := by simp [upto]
/-- A block is kept. -/
def KeepB (b : Nat) (W W' : World) : Prop := W'.heap[b]? = W.heap[b]?
theorem blocks1_in (F : Fence) (n : Nat) (h33 : F.fn 120) (hro : F.round = none) (hn : 1 ≤ n) (l Bs : Nat) (s : ByteArray) (hs : s.size ≤ 140737488351232) (J Jx : List (BitVec 64) → World → Prop)
  (hY : ∀ pre x W, J pre W → pre.length < s.size / 8 + 1 → YieldAt F (n - 1) Tryz.prog l #[.int .u64 (wv x)] W fun e W' =>
   (e = .returned (.bool true) ∧ J (pre ++ [x]) W' ∧ KeepB Bs W W') ∨ (e = .returned (.bool false) ∧ Jx (pre ++ [x]) W'))
  (W : World) (hBs : W.cell? ⟨Bs, 0, none⟩ = some (.string s)) (h0 : J [] W) :
  CallsIn F n Tryz.prog 120 #[.func (.yield l) #[] #[], .pointer (some ⟨Bs, 0, none⟩)] W fun e W' => (∃ v, e = .returned v) ∧
   ((∃ ys, ys = words s ∧ J ys W') ∨ (∃ pre, (∃ k, k ≤ s.size / 8 + 1 ∧ pre = upto (word s) k) ∧ Jx pre W')) := by
 refine callsIn_of_wp Tryz.func120 rfl h33 ?_ hro
 simp only [Tryz.ntmps120, List.size_toArray, List.length_cons, List.length_nil, Nat.reduceAdd, Nat.reduceSub, Array.replicate_succ, Array.replicate_zero, List.push_toArray, List.append_toArray, List.nil_append, List.cons_append]
 gi_wp2
 gi_loopw [3] (fun i wr => ∃ k : Nat, k ≤ s.size / 8 + 1 ∧ i = .int .i64 (8 * (k : Int)) ∧ J (upto (word s) k) wr ∧ KeepB Bs W wr)
  (fun i _ => s.size + 9 - (intOf i).toNat)
 case atStart => exact ⟨0, Nat.zero_le _, rfl, h0, rfl⟩
 case round =>
  obtain ⟨k, hk, rfl, hJs, hnx⟩ := hrel
  have hc : wr.cell? ⟨Bs, 0, none⟩ = some (.string s) := (World.cell?_of_block (w := W) (a := ⟨Bs, 0, none⟩) hnx).trans hBs
  by_cases hlt : k < s.size / 8 + 1
  ·have h8 : 8 * k ≤ s.size := by omega
   have hd : decide (8 * (k : Int) ≤ (s.size : Int)) = true := by simp; omega
   gi_wp2
   gi_loopw [4, 12] (fun v i wx => wx = wr ∧ ∃ m : Nat, m ≤ 8 ∧ i = .int .i64 (m : Int) ∧ v = .int .u64 (wv (wordTo s (8 * k) m))) (fun _ i _ => 8 - (intOf i).toNat)
   case atStart => exact ⟨rfl, 0, Nat.zero_le _, rfl, rfl⟩
   case round =>
    obtain ⟨rfl, m, hm, rfl, rfl⟩ := hrel
    by_cases hm8 : m < 8
    ·rcases Nat.lt_trichotomy (8 * k + m) s.size with hj | hj | hj
     ·gi_wp2
      go_roundw
      case rel =>
       refine ⟨trivial, m + 1, by omega, by go_num, ?_⟩
       rw [or_byte_wrap, wordTo_in s _ m hj]
      case measure => simp [intOf]; omega
     ·gi_wp2
      go_roundw
      case rel =>
       refine ⟨trivial, m + 1, by omega, by go_num, ?_⟩
       rw [wordTo_at s _ m hj]
      case measure => simp [intOf]; omega
     ·gi_wp2
      go_roundw
      case rel =>
       refine ⟨trivial, m + 1, by omega, by go_num, ?_⟩
       rw [wordTo_past s _ m hj]
      case measure => simp [intOf]; omega
    ·obtain rfl : m = 8 := by omega
     obtain ⟨fn, tmps, assign, body, hy, hR⟩ := hY _ (word s k) wr hJs (by rw [upto_length]; exact hlt)
     have hy' : (Instr.yield l #[.int .u64 (wv (wordTo s (8 * k) 8))]).run Tryz.prog wr = .ok (.round l fn tmps assign body) wr := hy
     clear hy
     gi_wp2
     refine hR.mono ?_
     rintro e W3 (⟨rfl, hJ3, hk3⟩ | ⟨rfl, hJx3⟩)
     ·gi_wp2
      go_roundw
      case rel => exact ⟨k + 1, by omega, by go_num, by rw [upto_succ]; exact hJ3, hk3.trans hnx⟩
      case measure => simp [intOf]; omega
     ·gi_wp2
      refine bodyPost_ret (results_none rfl _ _ _) rfl ?_
      exact ⟨⟨_, rfl⟩, .inr ⟨_, ⟨k + 1, by omega, (upto_succ _ _).symm⟩, hJx3⟩⟩
  ·obtain rfl : k = s.size / 8 + 1 := by omega
   have h8 : s.size < 8 * (s.size / 8 + 1) := by omega
   gi_wp2
   go_end0
   exact ⟨⟨_, rfl⟩, .inl ⟨_, rfl, hJs⟩⟩
theorem upto_take {α : Type} (f : Nat → α) (N : Nat) {k : Nat} (hk : k ≤ N) : upto f k <+: upto f N := by
 refine ⟨(List.range' k (N - k)).map f, ?_⟩
 unfold upto
 rw [← List.map_append]
 congr 1
 have := List.range'_append (s := 0) (m := k) (n := N - k) (step := 1)
 simp only [Nat.zero_add, Nat.one_mul] at this
 rw [List.range_eq_range', List.range_eq_range', this]
 congr 1; omega
theorem blocks_in (F : Fence) (n : Nat) (h29 : F.fn 105) (hro : F.round = none) (s : ByteArray) (w : World) :
  CallsIn F n Tryz.prog 105 #[.string s] w fun e w' => e = .returned (.func (.func 120) #[] #[.pointer (some ⟨w.heap.size, 0, none⟩)]) ∧ w' = w.alloc (.cells #[.string s] 9) := by
 refine callsIn_of_wp Tryz.func105 rfl h29 ?_ hro
 simp only [Tryz.ntmps105, List.size_toArray, List.length_cons, List.length_nil, Nat.reduceAdd, Nat.reduceSub, Array.replicate_succ, Array.replicate_zero, List.push_toArray, List.append_toArray, List.nil_append, List.cons_append]
 gi_wp2
 go_ret
 exact ⟨rfl, rfl⟩
theorem blocks_stops (F : Fence) (n : Nat) (h33 : F.fn 120) (hro : F.round = none) (hn : 1 ≤ n) (Bs : Nat) (s : ByteArray) (hs : s.size ≤ 140737488351232) (w : World) (hBs : Bs < w.heap.size)
  (hc : w.cell? ⟨Bs, 0, none⟩ = some (.string s)) :
  SeqStopsK F n Tryz.prog 120 #[.pointer (some ⟨Bs, 0, none⟩)] (fun x : BitVec 64 => #[Value.int .u64 (wv x)]) (KeepB Bs) (fun ys => ys = words s) (fun pre => pre <+: words s) (s.size / 8 + 1) w := fun l J Jx W hW _ _ hY h0 => by
 have hc' := (hW.cell (p := ⟨Bs, 0, none⟩) hBs).trans hc
 refine (blocks1_in F n h33 hro hn l Bs s hs J Jx hY W hc' h0).mono ?_
 rintro e W' ⟨he, ⟨ys, rfl, hj⟩ | ⟨pre, ⟨k, hk, rfl⟩, hj⟩⟩
 ·exact ⟨he, .inl ⟨_, rfl, hj⟩⟩
 ·exact ⟨he, .inr ⟨_, upto_take (word s) _ hk, hj⟩⟩
theorem keepB_t {b : Nat} {A B C : World} (h : KeepB b A B) (k : KeepB b B C) : KeepB b A C := Eq.trans k h
theorem keepB_b {b : Nat} {w : World} (hb : b < w.heap.size) (W : World) (l : Nat) (o o' : Obj) (hl : w.heap.size ≤ l) (h : W.heap[l]? = some o) (_ : o.isCells = false) (_ : o.isWalk = false) : KeepB b W (W.putObj l o') :=
 (grownBy_putObj' W l o').block b (by have := lt_of_heap h; omega) (fun e => by cases e; omega)
end
/- Walks: the program's sponge. -/
section
open Go.RowKit Go.Shelf
attribute [local go_sem] xor_wv and_wv or_wv not_wv shl_nf shr_nf shl_8 or_byte or_128
attribute [local go_sem] Oper.semAt_some
theorem init_word (kd : Nat) (hk : kd ≤ 1) : IntKind.u64.wrap (8026104356937031936 + (kd : Int)) = wv (wof (letters + kd)) := by
 have : kd = 0 ∨ kd = 1 := by omega
 rcases this with rfl | rfl <;> decide +kernel
theorem permute_12 (s : St) (w : World) :
  Calls Tryz.prog 104 #[s.val, .int .i64 12] w fun e w' => e = .returned (St.perm 12 s).val ∧ Below w.heap.size w w' := permute_any s 12 (by omega) w
theorem permute_init (x : BitVec 64) (w : World) :
  Calls Tryz.prog 104 #[.agg #[.int .u64 (wv x), .int .u64 0, .int .u64 0, .int .u64 0, .int .u64 0], .int .i64 12] w fun e w' => e = .returned (St.perm 12 ⟨x, wof 0, wof 0, wof 0, wof 0⟩).val ∧ Below w.heap.size w w' :=
 permute_12 ⟨x, wof 0, wof 0, wof 0, wof 0⟩ w
theorem absorb_snoc (x : St) (l : List (BitVec 64)) (w : BitVec 64) : St.absorb x (l ++ [w]) = St.perm 12 { St.absorb x l with a := wxor (St.absorb x l).a w } := by
 induction l generalizing x with
 | nil => rfl
 | cons v l ih => exact ih _
theorem Tryz.info5 : (Tryz.prog.info? 5).map (fun i => (i.zero, i.size, i.bytes)) = some (some (.int .u8 0), 1, 1) := by kernel_rfl
theorem run_any (s : ByteArray) (hs : s.size ≤ 140737488351232) (kd n : Nat) (hk : kd ≤ 1) (hn : n ≤ 1048576) (w : World) :
  Calls Tryz.prog 61 #[.string s, .int .u64 (kd : Int), .int .i64 (n : Int)] w fun e w' => e = .returned (.string (runB s kd n)) ∧ Below w.heap.size w w' := by
 refine (callsIn_wide (n := 5)).1 ?_
 have hi := init_word kd hk
 refine callsIn_of_wp_marks Tryz.func61 rfl trivial ?_ rfl
 simp only [Tryz.ntmps61, List.size_toArray, List.length_cons, List.length_nil, Nat.reduceAdd, Nat.reduceSub, Array.replicate_succ, Array.replicate_zero, List.push_toArray, List.append_toArray, List.nil_append, List.cons_append]
 gi_wp2_with fail
 refine ⟨trivial, (callsIn_wide.2 (permute_init _ _)).mono ?_⟩
 rintro e w1 ⟨rfl, hb1⟩
 clear hi
 have hS : ∃ S : St, S = St.perm 12 ⟨wof (letters + kd), wof 0, wof 0, wof 0, wof 0⟩ := ⟨_, rfl⟩
 obtain ⟨S, hS⟩ := hS
 rw [← hS]
 have HS := Lib.hid hS
 clear hS
 gi_wp2_with fail
 refine ⟨trivial, (blocks_in Fence.wide _ trivial rfl s _).mono ?_⟩
 rintro e w2 ⟨rfl, rfl⟩
 have h1s := hb1.size
 have hW2 : Below w.heap.size w ((w1.alloc (.cells S.cells 130)).alloc (.cells #[.string s] 9)) := (hb1.alloc h1s _).alloc (by simp; omega) _
 have hcB : ((w1.alloc (.cells S.cells 130)).alloc (.cells #[.string s] 9)).heap[w1.heap.size]? = some (.cells S.cells 130) := by
  rw [Below.heap_alloc _ _ _ (by simp)]; exact alloc_last _ _ rfl
 have hcs : ((w1.alloc (.cells S.cells 130)).alloc (.cells #[.string s] 9)).cell? ⟨w1.heap.size + 1, 0, none⟩ = some (.string s) := by
  simp
 gi_wp2_with fail
 obtain ⟨W2, hW2e⟩ : ∃ W2, (w1.alloc (.cells S.cells 130)).alloc (.cells #[.string s] 9) = W2 := ⟨_, rfl⟩
 have hz2 : W2.heap.size = w1.heap.size + 1 + 1 := by rw [← hW2e]; simp
 rw [hW2e] at hW2 hcB hcs
 change Code.wpIn _ _ _ _ _ _ ((w1.alloc (.cells S.cells 130)).alloc (.cells #[.string s] 9))
 rw [hW2e]
 have HZ := Lib.hid hz2
 clear hz2 hW2e
 refine wpIn_rangeFunc_ownF rfl (by omega) (gf := 120) (lb := #[.pointer (some ⟨w1.heap.size + 1, 0, none⟩)]) rfl trivial (enters_of Tryz.func120 (by kernel_rfl) rfl)
  (blocks_stops Fence.wide _ trivial rfl (by omega) (w1.heap.size + 1) s hs W2 (by rw [HZ.out]; omega) hcs) keepB_t (keepB_b (by rw [HZ.out]; omega)) (Below.refl _ _) (fun _ => rfl)
  (fun pre W => W.heap[w1.heap.size]? = some (.cells (St.absorb S pre).cells 130) ∧ Below w.heap.size w W ∧ w1.heap.size + 1 < W.heap.size)
  (fun _ _ _ => False)
  (fun q A A' row hs hg hr => ⟨(grownBy_keeps_cells hg (fun r e => (hr r e).2) hs.1 rfl).trans hs.1, (ownFrom_below (β := List (BitVec 64)) (Nat.le_refl _) hW2.size) q A A' row hs.2.1 hg hr, Nat.lt_of_lt_of_le hs.2.2 hg.size⟩)
  (fun _ _ _ _ _ hs _ _ => hs)
  ⟨hcB, hW2, by rw [HZ.out]; omega⟩
  (fun x => { tmps := #[Value.string s, Value.int IntKind.u64 ↑kd, Value.int IntKind.i64 ↑n, undef, undef, undef, Value.string { data := #[] }, Value.pointer (some { block := w1.heap.size, off := 0 }), Value.int IntKind.u64 (wv x), undef, undef, Value.int IntKind.u64 ↑kd, Value.int IntKind.u64 (wv (wof (letters + ↑kd))), Value.agg #[Value.int IntKind.u64 (wv (wof (letters + ↑kd))), Value.int IntKind.u64 0, Value.int IntKind.u64 0, Value.int IntKind.u64 0, Value.int IntKind.u64 0], S.val, Value.string s, Value.func (Fn.func 120) #[] #[Value.pointer (some { block := w1.heap.size + 1, off := 0 })], Value.int IntKind.u64 (wv x), undef, undef, undef, undef, undef, undef, undef, undef, undef, undef, undef, undef, undef, undef, undef, undef, undef, undef, undef, undef, undef, undef, undef, undef, undef, undef, undef, undef, undef, undef, undef, undef], defers := [] }) ?assign ?body ?done ?stop
 case assign =>
  intro l x W K hK
  gi_wp2
  exact hK
 case body =>
  rintro l pre x W ⟨h0, hB, hz5⟩ _
  obtain ⟨y, hy⟩ : ∃ y, y = St.absorb S pre := ⟨_, rfl⟩
  rw [← hy] at h0
  have Hy := Lib.hid hy
  clear hy
  obtain ⟨c0, c1, c2, c3, c4, f0, f1, f2, f3, f4, z0⟩ := five_cells h0
  gi_wp2_with fail
  refine ⟨trivial, CallsIn.inRound l ((callsIn_wide.2 (permute_12 { y with a := wxor y.a x } _)).mono ?_)⟩
  rintro e w3 ⟨rfl, hb3⟩
  obtain ⟨hc, hf⟩ := bcell hb3
  have hk3 : KeepsOthers W w3 := (KeepsOthers.setCell _ _ _).trans ⟨hb3.size, fun k o hk _ => by rw [hb3.block k (lt_of_heap hk)]; exact hk⟩
  have hB3 : Below w.heap.size w w3 := (hB.setCell (p := ⟨w1.heap.size, 0, none⟩) h1s _).trans (hb3.mono (by simp; omega))
  have hq3 : w3.heap[w1.heap.size]? = some (.cells #[.int .u64 (wv (wxor y.a x)), .int .u64 (wv y.b), .int .u64 (wv y.c), .int .u64 (wv y.d), .int .u64 (wv y.e)] 130) := by
   rw [hb3.block _ (by simpa using z0)]; simp [World.setCell, Array.getElem?_modify, h0]
  have hq4 : w3.heap[w1.heap.size + 1]? = W.heap[w1.heap.size + 1]? := by
   rw [hb3.block _ (by simpa using hz5)]; exact Below.heap_setCell _ _ _ _ (by simp)
  gi_wp2
  refine ⟨?_, ?_, ?_, ?_, ?_⟩
  ·refine hk3.trans ?_
   repeat (with_reducible first | exact KeepsOthers.refl _ | exact KeepsOthers.setCell _ _ _ | refine KeepsOthers.trans ?_ (KeepsOthers.setCell _ _ _))
  ·show _ = _
   iterate 5 rw [Below.heap_setCell _ _ _ _ (by simp)]
   exact hq4
  ·rw [absorb_snoc, ← Hy.out]; exact set_five hq3
  ·repeat (with_reducible first | apply below_drewN | apply Below.drew | refine Below.setCell ?_ (by first | (simp; done) | (simp; omega)) _ | refine Below.alloc ?_ (by first | (simp; done) | (simp; omega)) _ | assumption | exact Below.refl _ _)
  ·have := hb3.size; simp at this ⊢; omega
 case done =>
  rintro D ys W hD rfl ⟨h0, hB, hz5⟩ hK
  obtain ⟨S0, hS0⟩ : ∃ S0, S0 = St.absorb S (words s) := ⟨_, rfl⟩
  rw [← hS0] at h0
  have HS0 := Lib.hid hS0
  clear hS0
  obtain ⟨i0, hi0, hz0, hz1, hz2⟩ := info_parts Tryz.info5
  have hWs := lt_of_heap h0
  have hWD := lt_of_heap hK
  have hDB : w1.heap.size < D := by have := HZ.out; omega
  gi_wp2_with (refine wpListIn_make_own _ rfl _ _ 54 rfl W.heap.size 5 i0 (.int .u8 0) 1 Tryz.underlying54 hi0 hz0 hz1 .i64 .i64 ((n : Int) + 8) (n + 8) rfl rfl (by simp) (by rw [hz2]; omega) (by unfold maxLen; omega) (Nat.le_refl _) ?_; intro wm hown hgm)
  have hBm : Below w.heap.size w wm := hB.grown hgm hB.size (fun k e => by cases e)
  have h0m : wm.heap[w1.heap.size]? = some (.cells S0.cells 130) := (hgm.block _ hWs (by simp)).trans h0
  have hKm : wm.heap[D]? = some (.deferred (some [])) := (hgm.block _ hWD (by simp)).trans hK
  have hsm := hgm.size
  gi_loopw [9] (fun v9 wx => ∃ j g cap : Nat, 8 * j < n + 8 ∧ 0 < cap ∧ v9 = .slice (some ⟨g, 0, none⟩) (8 * j) cap ∧ wx.ownsRow W.heap.size 5 1 v9 (8 * j) ((St.squeeze S0 j).map byteV) ∧
   wx.heap[w1.heap.size]? = some (.cells (St.iter S0 j).cells 130) ∧ wx.heap[D]? = some (.deferred (some [])) ∧ Below w.heap.size w wx ∧ W.heap.size ≤ wx.heap.size) (fun v9 _ => n + 8 - lenOf v9)
  case atStart => exact ⟨0, _, _, by omega, by omega, rfl, hown, h0m, hKm, hBm, hsm⟩
  case round =>
   obtain ⟨j, g, cap, hj, hcp, rfl, how, h0w, hKw, hBw, hsw⟩ := hrel
   obtain ⟨y, hy⟩ : ∃ y, y = St.iter S0 j := ⟨_, rfl⟩
   rw [← hy] at h0w
   have Hy := Lib.hid hy
   clear hy
   obtain ⟨_, hjc, hbg, hcm⟩ := ownsRow_cap how
   by_cases hlt : 8 * j < n
   ·have hdl : decide ((8 * (j : Int)) < (n : Int)) = true := by simp; omega
    gi_wp2
    obtain ⟨wo, rfl⟩ : ∃ wo : World, wo = wr := ⟨_, rfl⟩
    gi_loopw [9, 10] (fun v9 v10 wx => ∃ i g cap : Nat, i ≤ 8 ∧ 0 < cap ∧ v10 = .int .i64 (56 - 8 * (i : Int)) ∧ v9 = .slice (some ⟨g, 0, none⟩) (8 * j + i) cap ∧ wx.ownsRow W.heap.size 5 1 v9 (8 * j + i) ((St.squeeze S0 j ++ wbytes y.a i).map byteV) ∧
     wx.heap[w1.heap.size]? = some (.cells y.cells 130) ∧ wx.heap[D]? = some (.deferred (some [])) ∧ Below w.heap.size w wx ∧ W.heap.size ≤ wx.heap.size) (fun _ v10 _ => (intOf v10 + 64).toNat)
    case atStart => exact ⟨0, g, cap, by omega, hcp, rfl, rfl, by simpa [wbytes] using how, h0w, hKw, hBw, hsw⟩
    case round =>
     obtain ⟨i, g, cap, hi, hcp, rfl, rfl, how, h0w, hKw, hBw, hsw⟩ := hrel
     obtain ⟨c0, c1, c2, c3, c4, f0, f1, f2, f3, f4, z0⟩ := five_cells h0w
     by_cases hi8 : i < 8
     ·gi_wp2_with (gi_at_builtin; refine wpListIn_append_own _ rfl (.tmp 36) (.tmp 42) 54 rfl W.heap.size 5 i0 (.int .u8 0) 1 1 Tryz.underlying54 hi0 hz0 hz1 hz2 rfl (by decide) _ (8 * j + i) _ rfl (how.alloc _) ⟨wr.heap.size, 0, none⟩ 1 1 _ rfl rfl (cell_one_new _ _ _) (by simp [Value.oneCell']) (by unfold maxLen; omega) (by omega) (by simp; omega) ?_; intro v' w4 hown' hgrow _)
      obtain ⟨g', cap', rfl⟩ := ownsRow_succ hown'
      have hgr : (wr.alloc (.cells #[.int .u8 (wv (wshr y.a (56 - 8 * i)) % 256)] 5)).grownBy w4 (some g) := hgrow
      obtain ⟨_, _, hbg2, _⟩ := ownsRow_cap how
      refine ⟨⟨i + 1, g', cap', by omega, ?_, by go_num, rfl, ?_, ?_, ?_, ?_, ?_⟩, by simp [intOf]; omega⟩
      ·obtain ⟨_, h, _, _⟩ := ownsRow_cap hown'; omega
      ·rw [wbytes_succ, ← List.append_assoc, List.map_append]
       rw [wbyte_num' _ _ _ rfl] at hown'
       exact hown'
      ·rw [hgr.block _ (by simp; omega) (by simp; omega), Below.heap_alloc _ _ _ z0]; exact h0w
      ·rw [hgr.block _ (by simp; have := lt_of_heap hKw; omega) (by simp; omega), Below.heap_alloc _ _ _ (lt_of_heap hKw)]; exact hKw
      ·exact (hBw.alloc hBw.size _).grown hgr (by have := hBw.size; simp; omega) (fun k e => by cases e; have := hB.size; omega)
      ·have := hgr.size; simp at this; omega
     ·obtain rfl : i = 8 := by omega
      gi_wp2_with fail
      refine ⟨trivial, (callsIn_wide.2 (permute_12 y _)).mono ?_⟩
      rintro e w5 ⟨rfl, hb5⟩
      obtain ⟨hc, hf⟩ := bcell hb5
      gi_wp2
      go_roundw
      case rel =>
       refine ⟨j + 1, g, cap, by omega, hcp, by go_num, ?_, ?_, ?_, ?_, ?_⟩
       ·have h5 := ownsRow_of_below how hb5
        iterate 5 refine ownsRow_setCell_below ?_ (by simpa using hWs) _
        rw [St.squeeze, ← Hy.out]; exact h5
       ·rw [St.iter, ← Hy.out]; exact set_five (by rw [hb5.block _ z0]; exact h0w)
       ·iterate 5 rw [Below.heap_setCell _ _ _ _ (by simp; omega)]
        rw [hb5.block _ (lt_of_heap hKw)]; exact hKw
       ·have hB5 := hBw.trans (hb5.mono hBw.size)
        repeat (with_reducible first | apply below_drewN | apply Below.drew | refine Below.setCell ?_ (by first | (simp; done) | (simp; omega)) _ | refine Below.alloc ?_ (by first | (simp; done) | (simp; omega)) _ | assumption | exact Below.refl _ _)
       ·have := hb5.size; simp; omega
      case measure => simp [lenOf]; omega
   ·have hle : n ≤ 8 * j := by omega
    have hnc : n ≤ cap := by omega
    have hdl : decide ((8 * (j : Int)) < (n : Int)) = false := by simp; omega
    have hcv := run_row_string (P := Tryz.prog) (w := wr) (m := n) 54 9 5 Tryz.underlying54 Tryz.underlying5 Tryz.underlying9 how (by rw [squeeze_length]; exact hle) cap
    gi_wp2
    refine ⟨by simp, .inl ⟨_, _, rfl, run_takeDeferred hKw, ?_⟩⟩
    refine ⟨_, results_tmp rfl _ _ _, ?_, hBw.trans (belowK_b (w := w) (Nat.le_refl _) wr D _ _ ?_ hKw rfl rfl)⟩
    ·have hj' : (n + 7) / 8 = j := by omega
     show Ending.returned (.string (bytesOf ((St.squeeze S0 j).take n))) = _
     rw [runB, hj', HS0.out, HS.out]; rfl
    ·have := hW2.size; omega
 case stop =>
  rintro D c pre W _ _ h _
  exact h.elim
end
/- Walks: the small callers, and the kit's functions. -/
section
open Go.RowKit
theorem Short_any (s : ByteArray) (hs : s.size ≤ 140737488351232) (w : World) :
  Calls Tryz.prog 19 #[.string s] w fun e w' => e = .returned (.string (runB s 0 8)) ∧ Below w.heap.size w w' := by
 go_enter Tryz.func19, Tryz.ntmps19
 go_wp2_with fail
 refine (run_any s hs 0 8 (by omega) (by omega) _).mono ?_
 rintro e w' ⟨rfl, hb⟩
 go_wp2
 go_ret
 exact ⟨rfl, hb⟩
end
/- Walks: a disk: numbers and their eight bytes. -/
section
open Go.RowKit Go.Shelf
attribute [local go_sem] xor_wv and_wv or_wv not_wv shl_nf shr_nf shl_8 or_byte or_128
/-- The number of some bytes. -/
def numL (l : List UInt8) : Nat := l.foldl (fun n c => n * 256 + c.toNat) 0
theorem numL_snoc (l : List UInt8) (c : UInt8) : numL (l ++ [c]) = numL l * 256 + c.toNat := by unfold numL; rw [List.foldl_append]; rfl
theorem numF_lt (l : List UInt8) : ∀ n : Nat, l.foldl (fun n c => n * 256 + c.toNat) n < (n + 1) * 256 ^ l.length := by
 induction l with
 | nil => intro n; simp
 | cons c l ih =>
  intro n
  rw [List.foldl_cons, List.length_cons]
  have h1 := ih (n * 256 + c.toNat)
  have hc := c.toNat_lt
  have h2 : (n * 256 + c.toNat + 1) * 256 ^ l.length ≤ ((n + 1) * 256) * 256 ^ l.length := Nat.mul_le_mul_right _ (by omega)
  rw [Nat.pow_succ, Nat.mul_comm (256 ^ l.length), ← Nat.mul_assoc]
  omega
theorem numL_lt (l : List UInt8) : numL l < 256 ^ l.length := by
 have := numF_lt l 0
 simpa [numL] using this
/-- A half's bytes lie in a block. -/
def HalfAt (w : World) (b : Nat) (h : List UInt8) : Prop := ∃ t, w.heap[b]? = some (.cells (h.map byteV).toArray t)
theorem HalfAt.cell {w : World} {b : Nat} {h : List UInt8} (hh : HalfAt w b h) (k : Nat) (x : UInt8) (hx : h[k]? = some x) : w.cell? ⟨b, k, none⟩ = some (byteV x) := by
 obtain ⟨t, ht⟩ := hh
 simp [World.cell?, ht, hx]
theorem HalfAt.below {w w' : World} {b B : Nat} {h : List UInt8} (hh : HalfAt w b h) (hb : Below B w w') (hB : b < B) : HalfAt w' b h := by
 obtain ⟨t, ht⟩ := hh
 exact ⟨t, (hb.block _ hB).trans ht⟩
theorem HalfAt.lt {w : World} {b : Nat} {h : List UInt8} (hh : HalfAt w b h) : b < w.heap.size := by
 obtain ⟨t, ht⟩ := hh
 exact lt_of_heap ht
theorem addr_add (b o j : Nat) : (⟨b, o, none⟩ : Addr).add j = ⟨b, o + j, none⟩ := by
 unfold Addr.add
 split
 ·subst_vars; rfl
 ·rfl
theorem HalfAt.text {w : World} {b : Nat} {h : List UInt8} (hh : HalfAt w b h) (o n : Nat) (hn : o + n ≤ h.length) (c : Nat) :
  (convert 54 9 (.slice (some ⟨b, o, none⟩) n c)).run Tryz.prog w = .ok (.string (bytesOf ((h.drop o).take n))) w := by
 have hl : ((h.drop o).take n).length = n := by rw [List.length_take, List.length_drop]; omega
 have := run_convert_bytes_back (P := Tryz.prog) w 54 9 5 ⟨b, o, none⟩ c ((h.drop o).take n) Tryz.underlying54 Tryz.underlying5 Tryz.underlying9 (fun j hj => by
  rw [hl] at hj
  rw [addr_add]
  exact hh.cell (o + j) (((h.drop o).take n)[j]) (by rw [List.getElem?_eq_getElem (by omega)]; simp))
 rw [hl] at this
 exact this
theorem mod64 (n : Nat) (h : n < 18446744073709551616) : n % 2 ^ 64 = n := Nat.mod_eq_of_lt (by omega)
theorem or_add (n : Nat) (c : UInt8) (h : n * 256 + c.toNat < 18446744073709551616) : bits .or .u64 ((n : Int) * 256) ((c.toNat : Nat) : Int) = ((n * 256 + c.toNat : Nat) : Int) := by
 have hc := c.toNat_lt
 obtain ⟨m, hm⟩ : ∃ m, m = n * 256 := ⟨_, rfl⟩
 obtain ⟨k, hk⟩ : ∃ k, k = c.toNat := ⟨_, rfl⟩
 have e1 : ((n : Int) * 256) = (m : Int) := by omega
 have e2 : m ||| k = m + k := by
  have := Nat.two_pow_add_eq_or_of_lt (i := 8) (b := k) (by omega) n
  rw [hm, Nat.mul_comm n 256]; exact this.symm
 rw [e1, ← hk, ← hm]
 rw [← hk, ← hm] at h
 show IntKind.u64.wrap ((BitVec.ofInt 64 (m : Int) ||| BitVec.ofInt 64 (k : Int)).toNat : Int) = _
 rw [BitVec.ofInt_natCast, BitVec.ofInt_natCast, BitVec.toNat_or, BitVec.toNat_ofNat, BitVec.toNat_ofNat, mod64 m (by omega), mod64 k (by omega), e2, u64_wrap_of_lt, mod64 _ h]
theorem number_any (b o c : Nat) (h l : List UInt8) (w : World) (hh : HalfAt w b h) (hl : l = (h.drop o).take l.length) (h8 : l.length ≤ 8) :
  Calls Tryz.prog 117 #[.slice (some ⟨b, o, none⟩) l.length c] w fun e w' => e = .returned (.int .u64 (numL l : Int)) ∧ w = w' := by
 have HL : Hid (∀ (k : Nat) (x : UInt8), l[k]? = some x → w.cell? ⟨b, o + k, none⟩ = some (.int .u8 (x.toNat : Int))) := by
  intro k x hk
  refine hh.cell _ _ ?_
  rw [hl, List.getElem?_take] at hk
  split at hk
  ·rw [List.getElem?_drop] at hk; exact hk
  ·cases hk
 obtain ⟨m, hm⟩ : ∃ m, m = l.length := ⟨_, rfl⟩
 rw [← hm] at h8 ⊢
 have HM := Lib.hid hm
 clear hh hl hm
 go_enter Tryz.func117, Tryz.ntmps117
 go_wp2
 go_loop [3, 8] (fun v i => ∃ k : Nat, k ≤ m ∧ i = .int .i64 (k : Int) ∧ v = .int .u64 (numL (l.take k) : Int)) (fun _ i => m - (intOf i).toNat)
 case atStart => exact ⟨0, Nat.zero_le _, rfl, rfl⟩
 case round =>
  obtain ⟨k, hk, rfl, rfl⟩ := hrel
  by_cases hlt : k < m
  ·obtain ⟨x, hx⟩ : ∃ x, l[k]? = some x := ⟨l[k]'(by rw [← HM.out]; exact hlt), List.getElem?_eq_getElem _⟩
   have hc := HL.out k x hx
   have HX : Hid (l.take (k + 1) = l.take k ++ [x]) := by show _ = _; rw [List.take_add_one, hx]; rfl
   have hb1 : numL (l.take k) < 256 ^ 7 := by
    have h1 := numL_lt (l.take k)
    have h2 : (256 : Nat) ^ (l.take k).length ≤ 256 ^ 7 := Nat.pow_le_pow_right (by decide) (by rw [List.length_take, ← HM.out]; omega)
    omega
   obtain ⟨N, hN⟩ : ∃ N, N = numL (l.take k) := ⟨_, rfl⟩
   rw [← hN] at hb1 ⊢
   have HN := Lib.hid hN
   have hxt := x.toNat_lt
   have h256 : (256 : Nat) ^ 7 = 72057594037927936 := by decide
   rw [h256] at hb1
   have hor := or_add N x (by omega)
   have hw1 : IntKind.u64.wrap ((N : Int) * 256) = (N : Int) * 256 := IntWalk.u64_in _ ⟨by omega, by omega⟩
   have hw2 : ((N : Int) * 256) % 18446744073709551616 = (N : Int) * 256 := by omega
   clear hx hN h256
   go_wp2
   go_round
   case rel => exact ⟨k + 1, by omega, by go_num, by rw [HX.out, numL_snoc, ← HN.out]; congr 1⟩
   case measure => simp [intOf]; omega
  ·obtain rfl : k = m := by omega
   have HT : Hid (l.take k = l) := by show _ = _; rw [HM.out, List.take_length]
   rw [HT.out]
   go_wp2
   go_ret
   exact ⟨rfl, rfl⟩
def eightTo (x : BitVec 64) (k : Nat) : List UInt8 := wbytes x k ++ List.replicate (8 - k) 0
theorem eightTo_length (x : BitVec 64) (k : Nat) (hk : k ≤ 8) : (eightTo x k).length = 8 := by unfold eightTo; rw [List.length_append, wbytes_length, List.length_replicate]; omega
theorem eightTo_succ (x : BitVec 64) (k : Nat) (hk : k < 8) : (eightTo x k).set k (wbyte x k) = eightTo x (k + 1) := by
 unfold eightTo
 rw [List.set_append, if_neg (by rw [wbytes_length]; omega), wbytes_length, Nat.sub_self, wbytes_succ]
 obtain ⟨m, hm⟩ : ∃ m, 8 - k = m + 1 := ⟨7 - k, by omega⟩
 rw [hm, List.replicate_succ, List.set_cons_zero, show 8 - (k + 1) = m by omega]
 simp
theorem eightTo_all (x : BitVec 64) : eightTo x 8 = wbytes x 8 := by unfold eightTo; simp
theorem eightTo_zero (x : BitVec 64) : ((eightTo x 0).map byteV).toArray = #[.int .u8 0, .int .u8 0, .int .u8 0, .int .u8 0, .int .u8 0, .int .u8 0, .int .u8 0, .int .u8 0] := by
 unfold eightTo wbytes; rfl
theorem half_set {w : World} {b : Nat} {h : List UInt8} {t : TypeId} (hh : w.heap[b]? = some (.cells (h.map byteV).toArray t)) (k : Nat) (x : UInt8) : (w.setCell ⟨b, k, none⟩ (byteV x)).heap[b]? = some (.cells ((h.set k x).map byteV).toArray t) := by
 simp [World.setCell, Array.getElem?_modify, hh, List.map_set]
theorem half_cells {w : World} {b : Nat} {h : List UInt8} {t : TypeId} (hh : w.heap[b]? = some (.cells (h.map byteV).toArray t)) (k : Nat) (hk : k < h.length) : w.cell? ⟨b, k, none⟩ = some (byteV h[k]) ∧ w.frozen? ⟨b, k, none⟩ = false := by
 refine ⟨HalfAt.cell ⟨t, hh⟩ k _ (List.getElem?_eq_getElem hk), by simp [World.frozen?, hh]⟩
theorem eight_any (x : BitVec 64) (w : World) : Calls Tryz.prog 18 #[.int .u64 (wv x)] w fun e w' => e = .returned (.string (bytesOf (wbytes x 8))) ∧ Below w.heap.size w w' := by
 go_enter Tryz.func18, Tryz.ntmps18
 go_upto_region 2 with (fail)
 rw [← eightTo_zero x]
 obtain ⟨W1, hW1⟩ : ∃ W, W = w.alloc (.cells ((eightTo x 0).map byteV).toArray 89) := ⟨_, rfl⟩
 have g1 : W1.heap[w.heap.size]? = some (.cells ((eightTo x 0).map byteV).toArray 89) := by rw [hW1]; exact alloc_last _ _ rfl
 have hB1 : Below w.heap.size w W1 := by rw [hW1]; exact (Below.refl _ w).alloc (Nat.le_refl _) _
 rw [← hW1]
 clear hW1
 go_wp2_with fail
 go_loopw [5] (fun ii wr => ∃ k : Nat, k ≤ 8 ∧ ii = .int .i64 (k : Int) ∧ Hid (wr.heap[w.heap.size]? = some (.cells ((eightTo x k).map byteV).toArray 89)) ∧ Below w.heap.size w wr) (fun ii _ => 8 - (intOf ii).toNat)
 case atStart => exact ⟨0, by omega, rfl, g1, hB1⟩
 case round =>
  obtain ⟨k, hk, rfl, hg, hBr⟩ := hrel
  by_cases hlt : k < 8
  ·obtain ⟨s, hs⟩ : ∃ s : Nat, s = 56 - 8 * k := ⟨_, rfl⟩
   have hsi : 56 - 8 * (k : Int) = (s : Int) := by omega
   obtain ⟨c1, f1⟩ := half_cells hg.out k (by rw [eightTo_length _ _ (by omega)]; exact hlt)
   have HSET := Lib.hid (eightTo_succ x k hlt)
   have HB := Lib.hid (wbyte_num' x k s hs)
   clear hs
   go_wp2
   go_roundw
   case rel =>
    have h := half_set hg.out k (wbyte x k)
    rw [HSET.out] at h
    refine ⟨k + 1, by omega, by go_num, ?_, hBr.setCell (by simp) _⟩
    rw [HB.out]
    exact h
   case measure => simp [intOf]; omega
  ·obtain rfl : k = 8 := by omega
   have hcv := HalfAt.text ⟨_, hg.out⟩ 0 8 (by rw [eightTo_length _ _ (by omega)]; omega) 8
   rw [eightTo_all, List.drop_zero, List.take_of_length_le (by rw [wbytes_length]; omega)] at hcv
   go_wp2
   go_ret
   exact ⟨rfl, hBr⟩
end
/- Moves of a walk through a region that draws its order, by hand. -/
end Go.Proofs.YtoggmplkbiidhaaGreatDoor
namespace Go
open RowKit
section
variable {P : Program} {ops : Array Oper} {Q : Exit → Act → World → Prop} {S : World → Prop}
theorem wpAnyH_takeL (i : Nat) {oi : Oper} {v : Value} {fuel : Nat} {listed : Array Bool} {a : Act} {w : World} (hr : (Region.ready .any ops listed).contains i = true) (hi : ops.toList[i]? = some oi)
  (hs : Region.noSelect ops = true) (hf : Region.free .any ops listed i = true)
  (hQ : ∀ c a w, Q (.panic c) (a.put oi.dst v) w → Q (.panic c) a w) (hy : YieldsIf P ops S oi v a) (hS : S w)
  (h : wpAnyH P .any ops Q S fuel (listed.setIfInBounds i true) (a.put oi.dst v) w) : wpAnyH P .any ops Q S (fuel + 1) listed a w :=
 wpAnyH_take (by simpa using hi) hs hf hr hQ hy hS h
theorem tkH (i : Nat) {oi : Oper} {v : Value} {fuel : Nat} {listed : Array Bool} {a : Act} {w : World} (hi : ops.toList[i]? = some oi) (hrun : ∀ w, S w → (execOp a.eval oi).run P w = .ok (.value v) w)
  (h : wpAnyH P .any ops Q S fuel (listed.setIfInBounds i true) (a.put oi.dst v) w) (hr : (Region.ready .any ops listed).contains i = true := by kernel_rfl) (hs : Region.noSelect ops = true := by kernel_rfl) (hf : Region.free .any ops listed i = true := by kernel_rfl) (hQ : ∀ c a w, Q (.panic c) (a.put oi.dst v) w → Q (.panic c) a w := by exact fun _ _ _ h => h) (hw : Region.wanted oi (yielded ops a.tmps) = true := by rfl) (hS : S w := by assumption) : wpAnyH P .any ops Q S (fuel + 1) listed a w :=
 wpAnyH_takeL i hr hi hs hf hQ (Or.inl ⟨hw, hrun⟩) hS h
theorem tkS (i : Nat) {oi : Oper} {fuel : Nat} {listed : Array Bool} {a : Act} {w : World} (hi : ops.toList[i]? = some oi)
  (h : wpAnyH P .any ops Q S fuel (listed.setIfInBounds i true) (a.put oi.dst undef) w) (hr : (Region.ready .any ops listed).contains i = true := by kernel_rfl) (hs : Region.noSelect ops = true := by kernel_rfl) (hf : Region.free .any ops listed i = true := by kernel_rfl) (hQ : ∀ c a w, Q (.panic c) (a.put oi.dst undef) w → Q (.panic c) a w := by exact fun _ _ _ h => h) (hw : Region.wanted oi (yielded ops a.tmps) = false := by rfl) (hS : S w := by assumption) : wpAnyH P .any ops Q S (fuel + 1) listed a w :=
 wpAnyH_takeL i hr hi hs hf hQ (Or.inr ⟨hw, rfl⟩) hS h
/-- The one operation that may come up. -/
theorem wpAnyH_stepL (i : Nat) {o : Oper} {fuel : Nat} {listed : Array Bool} {a : Act} {w : World} (hr : Region.ready .any ops listed = [i]) (ho : ops.toList[i]? = some o)
  (h : ∀ K' : Act → World → Prop, Shut (∀ a w, S w → (S w → wpAnyH P .any ops Q S fuel (listed.setIfInBounds i true) a w) → K' a w) → if Region.wanted o (yielded ops a.tmps) = true then Oper.wp P o a w K' Q else K' (a.put o.dst undef) w) :
  wpAnyH P .any ops Q S (fuel + 1) listed a w := by
 refine ⟨fun h0 => (by rw [hr] at h0; cases h0), fun j hj => ?_⟩
 rw [hr] at hj
 obtain rfl : j = i := by simpa using hj
 exact wpOp_step (by simpa using ho) (fun K' hK => h K' (fun a w hS hW => hK a w ⟨hS, hW hS⟩))
theorem wpAnyH_end {fuel : Nat} {listed : Array Bool} {a : Act} {w : World} (hr : Region.ready .any ops listed = []) (h : Q .normal a w) : wpAnyH P .any ops Q S fuel listed a w := wpAnyH_done hr h fuel
theorem wp_region_heldL {id : Nat} {a : Act} {w : World} (S : World → Prop) (hm : P.follows .mixedOrders = true) (hS : S w.drew)
  (h : S w.drew → wpAnyH P .any ops Q S ops.size (Array.replicate ops.size false) a w.drew) : (Code.region id ops true).wp P Q a w :=
 wp_region_held hm (h hS)
end
end Go
/- Walks: a disk: the generation of a half. -/
namespace Go.Proofs.YtoggmplkbiidhaaGreatDoor
section
open Go.RowKit Go.Shelf
/-- Eight bytes of a number; a digest's first eight bytes. -/
def eightL (g : Nat) : List UInt8 := wbytes (wof (g : Int)) 8
def shortL (s : List UInt8) : List UInt8 := (St.squeeze (St.start (bytesOf s) 0) ((8 + 7) / 8)).take 8
theorem eightL_length (g : Nat) : (eightL g).length = 8 := wbytes_length _ _
theorem shortL_length (s : List UInt8) : (shortL s).length = 8 := by unfold shortL; rw [List.length_take, squeeze_length]; omega
theorem eightN_any (g : Nat) (hg : g < 18446744073709551616) (w : World) : Calls Tryz.prog 18 #[.int .u64 (g : Int)] w fun e w' => e = .returned (.string (bytesOf (eightL g))) ∧ Below w.heap.size w w' := by
 have := eight_any (wof (g : Int)) w
 rw [← wv_lit (g : Int) ⟨by omega, by omega⟩] at this
 exact this
theorem bytesOf_size (l : List UInt8) : (bytesOf l).size = l.length := rfl
theorem shortN_any (l : List UInt8) (hl : l.length ≤ 1000000) (w : World) : Calls Tryz.prog 19 #[.string (bytesOf l)] w fun e w' => e = .returned (.string (bytesOf (shortL l))) ∧ Below w.heap.size w w' :=
 Short_any (bytesOf l) (by rw [bytesOf_size]; omega) w
/-- The generation of a half. -/
def genB (h : List UInt8) : Bool := decide (h.getD 0 0 = 1) && decide (numL ((h.drop 1).take 8) ≠ 0) && decide (numL ((h.drop 1).take 8) < 9223372036854775808) && decide ((h.drop 9).take 8 = shortL (eightL (numL ((h.drop 1).take 8))))
def genL (h : List UInt8) : Nat := if genB h then numL ((h.drop 1).take 8) else 0
theorem bytesOf_inj {a b : List UInt8} (h : bytesOf a = bytesOf b) : a = b := by
 have := congrArg (fun x => x.data.toList) h
 simpa [bytesOf] using this
theorem generation_any (b : Nat) (h : List UInt8) (w : World) (hh : HalfAt w b h) (h64 : 64 ≤ h.length) (hmx : h.length ≤ 262144) :
    Calls Tryz.prog 112 #[.slice (some ⟨b, 0, none⟩) h.length h.length] w fun e w' => e = .returned (.int .u64 (genL h : Int)) ∧ Below w.heap.size w w' := by
  obtain ⟨r, hr⟩ : ∃ r, r = genL h := ⟨_, rfl⟩
  rw [← hr]
  unfold genL genB at hr
  obtain ⟨x0, hx0⟩ : ∃ x, h[0]? = some x := ⟨h[0], List.getElem?_eq_getElem (by omega)⟩
  have hl8 : ((h.drop 1).take 8).length = 8 := by rw [List.length_take, List.length_drop]; omega
  have hg8 := numL_lt ((h.drop 1).take 8)
  rw [hl8] at hg8
  have HN := number_any b 1 (h.length - 1) h ((h.drop 1).take 8) w hh (by rw [hl8]) (by rw [hl8]; omega)
  rw [hl8] at HN
  rw [List.getD_eq_getElem?_getD, hx0, Option.getD_some] at hr
  obtain ⟨g, hg⟩ : ∃ g, g = numL ((h.drop 1).take 8) := ⟨_, rfl⟩
  rw [← hg] at hr hg8 HN
  have hg64 : g < 18446744073709551616 := by have : (256 : Nat) ^ 8 = 18446744073709551616 := by simp
                                             omega
  have hl9 : ((h.drop 9).take 8).length = 8 := by rw [List.length_take, List.length_drop]; omega
  obtain ⟨t9, ht9⟩ : ∃ t, t = (h.drop 9).take 8 := ⟨_, rfl⟩
  rw [← ht9] at hr
  have hlt := hh.lt
  obtain ⟨m, hm⟩ : ∃ m, m = h.length := ⟨_, rfl⟩
  rw [← hm] at h64 hmx HN ⊢
  have HT : Hid (∀ W, HalfAt W b h → ∀ c, (convert 54 9 (.slice (some ⟨b, 9, none⟩) 8 c)).run Tryz.prog W = .ok (.string (bytesOf t9)) W) := by
    intro W hW c
    have := hW.text 9 8 (by omega) c
    rw [← ht9] at this; exact this
  have HH := Lib.hid hh
  have HC : Hid (∀ W, HalfAt W b h → W.cell? ⟨b, 0, none⟩ = some (.int .u8 (x0.toNat : Int))) := fun W hW => hW.cell 0 x0 hx0
  have hc := HC.out w hh
  have HR := Lib.hid hr
  have HNN := Lib.hid HN
  clear hh hr hx0 hl8 hg hl9 ht9 hm HN hg8
  have i0 : 0 < m := by omega
  have i9 : 9 ≤ m := by omega
  have i17 : 17 ≤ m := by omega
  have i17' : (17 : Int) ≤ (m : Int) := by omega
  have n9 : ¬ m = 9 := by omega
  have n1 : ¬ m = 1 := by omega
  go_enter Tryz.func112, Tryz.ntmps112
  go_wp2_with fail
  refine HNN.out.mono ?_
  rintro e w' ⟨rfl, rfl⟩
  go_upto_region 2 with (fail)
  have hS0 := HT.out w.drew HH.out
  by_cases h1 : x0 = 1
  case neg =>
    have t1 : ((x0.toNat : Int) != 1) = true := by
      rw [bne_iff_ne]
      intro h
      exact h1 (UInt8.toNat_inj.1 (by show x0.toNat = 1; omega))
    obtain rfl : r = 0 := by rw [HR.out]; simp [h1]
    refine wp_region_heldL (fun w' => w'.cell? ⟨b, 0, none⟩ = some (.int .u8 (x0.toNat : Int))) (by kernel_rfl) hc (fun hS => ?_)
    refine tkH 0 (v := ?_) rfl ?_ ?_
    rotate_left
    · (intro wq hSq; (try dsimp only at hSq); go_simp; try with_reducible rfl)
    try simp only [q0P, q0Q, q0R, q0S]
    refine tkH 1 (v := ?_) rfl ?_ ?_
    rotate_left
    · (intro wq hSq; (try dsimp only at hSq); go_simp; try with_reducible rfl)
    try simp only [q0P, q0Q, q0R, q0S]
    refine tkH 2 (v := ?_) rfl ?_ ?_
    rotate_left
    · (intro wq hSq; (try dsimp only at hSq); go_simp; try with_reducible rfl)
    try simp only [q0P, q0Q, q0R, q0S]
    refine tkH 3 (v := ?_) rfl ?_ ?_
    rotate_left
    · (intro wq hSq; (try dsimp only at hSq); go_simp; try with_reducible rfl)
    try simp only [q0P, q0Q, q0R, q0S]
    refine tkH 4 (v := ?_) rfl ?_ ?_
    rotate_left
    · (intro wq hSq; (try dsimp only at hSq); go_simp; try with_reducible rfl)
    try simp only [q0P, q0Q, q0R, q0S]
    refine tkS 5 rfl ?_
    try simp only [q0P, q0Q, q0R, q0S]
    refine tkS 6 rfl ?_
    try simp only [q0P, q0Q, q0R, q0S]
    refine tkH 7 (v := ?_) rfl ?_ ?_
    rotate_left
    · (intro wq hSq; (try dsimp only at hSq); go_simp; try with_reducible rfl)
    try simp only [q0P, q0Q, q0R, q0S]
    refine tkH 8 (v := ?_) rfl ?_ ?_
    rotate_left
    · (intro wq hSq; (try dsimp only at hSq); go_simp; try with_reducible rfl)
    try simp only [q0P, q0Q, q0R, q0S]
    refine tkS 9 rfl ?_
    try simp only [q0P, q0Q, q0R, q0S]
    refine tkS 10 rfl ?_
    try simp only [q0P, q0Q, q0R, q0S]
    refine tkH 11 (v := ?_) rfl ?_ ?_
    rotate_left
    · (intro wq hSq; (try dsimp only at hSq); go_simp; try with_reducible rfl)
    try simp only [q0P, q0Q, q0R, q0S]
    refine tkH 12 (v := ?_) rfl ?_ ?_
    rotate_left
    · (intro wq hSq; (try dsimp only at hSq); go_simp; try with_reducible rfl)
    try simp only [q0P, q0Q, q0R, q0S]
    refine tkS 13 rfl ?_
    try simp only [q0P, q0Q, q0R, q0S]
    refine tkS 14 rfl ?_
    try simp only [q0P, q0Q, q0R, q0S]
    refine tkS 15 rfl ?_
    try simp only [q0P, q0Q, q0R, q0S]
    refine tkS 16 rfl ?_
    try simp only [q0P, q0Q, q0R, q0S]
    refine tkS 17 rfl ?_
    try simp only [q0P, q0Q, q0R, q0S]
    refine tkS 18 rfl ?_
    try simp only [q0P, q0Q, q0R, q0S]
    refine tkS 19 rfl ?_
    try simp only [q0P, q0Q, q0R, q0S]
    refine tkH 20 (v := ?_) rfl ?_ ?_
    rotate_left
    · (intro wq hSq; (try dsimp only at hSq); go_simp; try with_reducible rfl)
    try simp only [q0P, q0Q, q0R, q0S]
    refine wpAnyH_end (by kernel_rfl) ?_
    go_wp2
    go_ret
    exact ⟨rfl, (Below.refl _ _).drew⟩
  have t1 : ((x0.toNat : Int) != 1) = false := by rw [h1]; rfl
  by_cases h2 : g = 0
  · have t2 : ((g : Int) == 0) = true := by simp [h2]
    obtain rfl : r = 0 := by rw [HR.out]; simp [h2]
    refine wp_region_heldL (fun w' => w'.cell? ⟨b, 0, none⟩ = some (.int .u8 (x0.toNat : Int))) (by kernel_rfl) hc (fun hS => ?_)
    refine tkH 0 (v := ?_) rfl ?_ ?_
    rotate_left
    · (intro wq hSq; (try dsimp only at hSq); go_simp; try with_reducible rfl)
    try simp only [q0P, q0Q, q0R, q0S]
    refine tkH 1 (v := ?_) rfl ?_ ?_
    rotate_left
    · (intro wq hSq; (try dsimp only at hSq); go_simp; try with_reducible rfl)
    try simp only [q0P, q0Q, q0R, q0S]
    refine tkH 2 (v := ?_) rfl ?_ ?_
    rotate_left
    · (intro wq hSq; (try dsimp only at hSq); go_simp; try with_reducible rfl)
    try simp only [q0P, q0Q, q0R, q0S]
    refine tkH 3 (v := ?_) rfl ?_ ?_
    rotate_left
    · (intro wq hSq; (try dsimp only at hSq); go_simp; try with_reducible rfl)
    try simp only [q0P, q0Q, q0R, q0S]
    refine tkH 4 (v := ?_) rfl ?_ ?_
    rotate_left
    · (intro wq hSq; (try dsimp only at hSq); go_simp; try with_reducible rfl)
    try simp only [q0P, q0Q, q0R, q0S]
    refine tkH 5 (v := ?_) rfl ?_ ?_
    rotate_left
    · (intro wq hSq; (try dsimp only at hSq); go_simp; try with_reducible rfl)
    try simp only [q0P, q0Q, q0R, q0S]
    refine tkH 6 (v := ?_) rfl ?_ ?_
    rotate_left
    · (intro wq hSq; (try dsimp only at hSq); go_simp; try with_reducible rfl)
    try simp only [q0P, q0Q, q0R, q0S]
    refine tkH 7 (v := ?_) rfl ?_ ?_
    rotate_left
    · (intro wq hSq; (try dsimp only at hSq); go_simp; try with_reducible rfl)
    try simp only [q0P, q0Q, q0R, q0S]
    refine tkH 8 (v := ?_) rfl ?_ ?_
    rotate_left
    · (intro wq hSq; (try dsimp only at hSq); go_simp; try with_reducible rfl)
    try simp only [q0P, q0Q, q0R, q0S]
    refine tkS 9 rfl ?_
    try simp only [q0P, q0Q, q0R, q0S]
    refine tkS 10 rfl ?_
    try simp only [q0P, q0Q, q0R, q0S]
    refine tkH 11 (v := ?_) rfl ?_ ?_
    rotate_left
    · (intro wq hSq; (try dsimp only at hSq); go_simp; try with_reducible rfl)
    try simp only [q0P, q0Q, q0R, q0S]
    refine tkH 12 (v := ?_) rfl ?_ ?_
    rotate_left
    · (intro wq hSq; (try dsimp only at hSq); go_simp; try with_reducible rfl)
    try simp only [q0P, q0Q, q0R, q0S]
    refine tkS 13 rfl ?_
    try simp only [q0P, q0Q, q0R, q0S]
    refine tkS 14 rfl ?_
    try simp only [q0P, q0Q, q0R, q0S]
    refine tkS 15 rfl ?_
    try simp only [q0P, q0Q, q0R, q0S]
    refine tkS 16 rfl ?_
    try simp only [q0P, q0Q, q0R, q0S]
    refine tkS 17 rfl ?_
    try simp only [q0P, q0Q, q0R, q0S]
    refine tkS 18 rfl ?_
    try simp only [q0P, q0Q, q0R, q0S]
    refine tkS 19 rfl ?_
    try simp only [q0P, q0Q, q0R, q0S]
    refine tkH 20 (v := ?_) rfl ?_ ?_
    rotate_left
    · (intro wq hSq; (try dsimp only at hSq); go_simp; try with_reducible rfl)
    try simp only [q0P, q0Q, q0R, q0S]
    refine wpAnyH_end (by kernel_rfl) ?_
    go_wp2
    go_ret
    exact ⟨rfl, (Below.refl _ _).drew⟩
  have t2 : ((g : Int) == 0) = false := by rw [beq_eq_false_iff_ne]; omega
  by_cases h3 : 9223372036854775808 ≤ g
  · have t3 : (9223372036854775808 : Int) ≤ (g : Int) := by omega
    obtain rfl : r = 0 := by rw [HR.out, if_neg]; simp; omega
    refine wp_region_heldL (fun w' => w'.cell? ⟨b, 0, none⟩ = some (.int .u8 (x0.toNat : Int))) (by kernel_rfl) hc (fun hS => ?_)
    refine tkH 0 (v := ?_) rfl ?_ ?_
    rotate_left
    · (intro wq hSq; (try dsimp only at hSq); go_simp; try with_reducible rfl)
    try simp only [q0P, q0Q, q0R, q0S]
    refine tkH 1 (v := ?_) rfl ?_ ?_
    rotate_left
    · (intro wq hSq; (try dsimp only at hSq); go_simp; try with_reducible rfl)
    try simp only [q0P, q0Q, q0R, q0S]
    refine tkH 2 (v := ?_) rfl ?_ ?_
    rotate_left
    · (intro wq hSq; (try dsimp only at hSq); go_simp; try with_reducible rfl)
    try simp only [q0P, q0Q, q0R, q0S]
    refine tkH 3 (v := ?_) rfl ?_ ?_
    rotate_left
    · (intro wq hSq; (try dsimp only at hSq); go_simp; try with_reducible rfl)
    try simp only [q0P, q0Q, q0R, q0S]
    refine tkH 4 (v := ?_) rfl ?_ ?_
    rotate_left
    · (intro wq hSq; (try dsimp only at hSq); go_simp; try with_reducible rfl)
    try simp only [q0P, q0Q, q0R, q0S]
    refine tkH 5 (v := ?_) rfl ?_ ?_
    rotate_left
    · (intro wq hSq; (try dsimp only at hSq); go_simp; try with_reducible rfl)
    try simp only [q0P, q0Q, q0R, q0S]
    refine tkH 6 (v := ?_) rfl ?_ ?_
    rotate_left
    · (intro wq hSq; (try dsimp only at hSq); go_simp; try with_reducible rfl)
    try simp only [q0P, q0Q, q0R, q0S]
    refine tkH 7 (v := ?_) rfl ?_ ?_
    rotate_left
    · (intro wq hSq; (try dsimp only at hSq); go_simp; try with_reducible rfl)
    try simp only [q0P, q0Q, q0R, q0S]
    refine tkH 8 (v := ?_) rfl ?_ ?_
    rotate_left
    · (intro wq hSq; (try dsimp only at hSq); go_simp; try with_reducible rfl)
    try simp only [q0P, q0Q, q0R, q0S]
    refine tkH 9 (v := ?_) rfl ?_ ?_
    rotate_left
    · (intro wq hSq; (try dsimp only at hSq); go_simp; try with_reducible rfl)
    try simp only [q0P, q0Q, q0R, q0S]
    refine tkH 10 (v := ?_) rfl ?_ ?_
    rotate_left
    · (intro wq hSq; (try dsimp only at hSq); go_simp; try with_reducible rfl)
    try simp only [q0P, q0Q, q0R, q0S]
    refine tkH 11 (v := ?_) rfl ?_ ?_
    rotate_left
    · (intro wq hSq; (try dsimp only at hSq); go_simp; try with_reducible rfl)
    try simp only [q0P, q0Q, q0R, q0S]
    refine tkH 12 (v := ?_) rfl ?_ ?_
    rotate_left
    · (intro wq hSq; (try dsimp only at hSq); go_simp; try with_reducible rfl)
    try simp only [q0P, q0Q, q0R, q0S]
    refine tkS 13 rfl ?_
    try simp only [q0P, q0Q, q0R, q0S]
    refine tkS 14 rfl ?_
    try simp only [q0P, q0Q, q0R, q0S]
    refine tkS 15 rfl ?_
    try simp only [q0P, q0Q, q0R, q0S]
    refine tkS 16 rfl ?_
    try simp only [q0P, q0Q, q0R, q0S]
    refine tkS 17 rfl ?_
    try simp only [q0P, q0Q, q0R, q0S]
    refine tkS 18 rfl ?_
    try simp only [q0P, q0Q, q0R, q0S]
    refine tkS 19 rfl ?_
    try simp only [q0P, q0Q, q0R, q0S]
    refine tkH 20 (v := ?_) rfl ?_ ?_
    rotate_left
    · (intro wq hSq; (try dsimp only at hSq); go_simp; try with_reducible rfl)
    try simp only [q0P, q0Q, q0R, q0S]
    refine wpAnyH_end (by kernel_rfl) ?_
    go_wp2
    go_ret
    exact ⟨rfl, (Below.refl _ _).drew⟩
  have t3 : ¬ (9223372036854775808 : Int) ≤ (g : Int) := by omega
  refine wp_region_heldL (fun w' => w'.cell? ⟨b, 0, none⟩ = some (.int .u8 (x0.toNat : Int)) ∧ ∀ c, (convert 54 9 (.slice (some ⟨b, 9, none⟩) 8 c)).run Tryz.prog w' = .ok (.string (bytesOf t9)) w') (by kernel_rfl) ⟨hc, hS0⟩ (fun hS => ?_)
  refine tkH 0 (v := ?_) rfl ?_ ?_
  rotate_left
  · (intro wq hSq; (try dsimp only at hSq); go_simp; try with_reducible rfl)
  try simp only [q0P, q0Q, q0R, q0S]
  refine tkH 1 (v := ?_) rfl ?_ ?_
  rotate_left
  · (intro wq hSq; (try dsimp only at hSq); go_simp; try with_reducible rfl)
  try simp only [q0P, q0Q, q0R, q0S]
  refine tkH 2 (v := ?_) rfl ?_ ?_
  rotate_left
  · (intro wq hSq; (try dsimp only at hSq); go_simp; try with_reducible rfl)
  try simp only [q0P, q0Q, q0R, q0S]
  refine tkH 3 (v := ?_) rfl ?_ ?_
  rotate_left
  · (intro wq hSq; (try dsimp only at hSq); go_simp; try with_reducible rfl)
  try simp only [q0P, q0Q, q0R, q0S]
  refine tkH 4 (v := ?_) rfl ?_ ?_
  rotate_left
  · (intro wq hSq; (try dsimp only at hSq); go_simp; try with_reducible rfl)
  try simp only [q0P, q0Q, q0R, q0S]
  refine tkH 5 (v := ?_) rfl ?_ ?_
  rotate_left
  · (intro wq hSq; (try dsimp only at hSq); go_simp; try with_reducible rfl)
  try simp only [q0P, q0Q, q0R, q0S]
  refine tkH 6 (v := ?_) rfl ?_ ?_
  rotate_left
  · (intro wq hSq; (try dsimp only at hSq); go_simp; try with_reducible rfl)
  try simp only [q0P, q0Q, q0R, q0S]
  refine tkH 7 (v := ?_) rfl ?_ ?_
  rotate_left
  · (intro wq hSq; (try dsimp only at hSq); go_simp; try with_reducible rfl)
  try simp only [q0P, q0Q, q0R, q0S]
  refine tkH 8 (v := ?_) rfl ?_ ?_
  rotate_left
  · (intro wq hSq; (try dsimp only at hSq); go_simp; try with_reducible rfl)
  try simp only [q0P, q0Q, q0R, q0S]
  refine tkH 9 (v := ?_) rfl ?_ ?_
  rotate_left
  · (intro wq hSq; (try dsimp only at hSq); go_simp; try with_reducible rfl)
  try simp only [q0P, q0Q, q0R, q0S]
  refine tkH 10 (v := ?_) rfl ?_ ?_
  rotate_left
  · (intro wq hSq; (try dsimp only at hSq); go_simp; try with_reducible rfl)
  try simp only [q0P, q0Q, q0R, q0S]
  refine tkH 11 (v := ?_) rfl ?_ ?_
  rotate_left
  · (intro wq hSq; (try dsimp only at hSq); go_simp; try with_reducible rfl)
  try simp only [q0P, q0Q, q0R, q0S]
  refine tkH 12 (v := ?_) rfl ?_ ?_
  rotate_left
  · (intro wq hSq; (try dsimp only at hSq); go_simp; try with_reducible rfl)
  try simp only [q0P, q0Q, q0R, q0S]
  refine tkH 13 (v := ?_) rfl ?_ ?_
  rotate_left
  · (intro wq hSq; (try dsimp only at hSq); go_simp; try with_reducible rfl)
  try simp only [q0P, q0Q, q0R, q0S]
  refine tkH 14 (v := ?_) rfl ?_ ?_
  rotate_left
  · (intro wq hSq; (try dsimp only at hSq); go_simp; try with_reducible rfl)
  try simp only [q0P, q0Q, q0R, q0S]
  refine tkH 15 (v := ?_) rfl ?_ ?_
  rotate_left
  · (intro wq hSq; (try dsimp only at hSq); go_simp; try with_reducible rfl)
  try simp only [q0P, q0Q, q0R, q0S]
  refine tkH 16 (v := ?_) rfl ?_ ?_
  rotate_left
  · (intro wq hSq; (try dsimp only at hSq); go_simp; try with_reducible rfl)
  try simp only [q0P, q0Q, q0R, q0S]
  refine wpAnyH_stepL 17 (by kernel_rfl) rfl (fun K hK => ?_)
  go_simp
  go_at_call 18
  refine (eightN_any g hg64 _).mono ?_
  rintro e w2 ⟨rfl, hb2d⟩
  have hb2 : Below w.heap.size w w2 := ((Below.refl w.heap.size w).drew).trans hb2d
  have hc2 := HC.out w2 (HH.out.below hb2 hlt)
  have ht2 := HT.out w2 (HH.out.below hb2 hlt)
  refine hK.out _ _ ⟨hc2, ht2⟩ (fun hS2 => ?_)
  clear hK K hS
  try simp only [q0P, q0Q, q0R, q0S]
  refine wpAnyH_stepL 18 (by kernel_rfl) rfl (fun K hK => ?_)
  go_simp
  go_at_call 19
  refine (shortN_any (eightL g) (by rw [eightL_length]; omega) _).mono ?_
  rintro e w3 ⟨rfl, hb3⟩
  have hb23 := hb2.trans (hb3.mono hb2.size)
  have hc3 := HC.out w3 (HH.out.below hb23 hlt)
  have ht3 := HT.out w3 (HH.out.below hb23 hlt)
  refine hK.out _ _ ⟨hc3, ht3⟩ (fun hS3 => ?_)
  clear hK K hS2
  try simp only [q0P, q0Q, q0R, q0S]
  by_cases h4 : t9 = shortL (eightL g)
  · have t4 := str_beq (bytesOf t9) (bytesOf (shortL (eightL g))) (by rw [h4])
    obtain rfl : r = g := by rw [HR.out]; simp [h1, h2, h4]; omega
    refine tkH 19 (v := ?_) rfl ?_ ?_
    rotate_left
    · (intro wq hSq; (try dsimp only at hSq); go_simp; try with_reducible rfl)
    try simp only [q0P, q0Q, q0R, q0S]
    refine tkH 20 (v := ?_) rfl ?_ ?_
    rotate_left
    · (intro wq hSq; (try dsimp only at hSq); go_simp; try with_reducible rfl)
    try simp only [q0P, q0Q, q0R, q0S]
    refine wpAnyH_end (by kernel_rfl) ?_
    go_wp2
    go_ret
    exact ⟨rfl, hb23⟩
  · have t4 := str_bne (bytesOf t9) (bytesOf (shortL (eightL g))) (fun h => h4 (bytesOf_inj h))
    obtain rfl : r = 0 := by rw [HR.out, if_neg]; simp [h4]
    refine tkH 19 (v := ?_) rfl ?_ ?_
    rotate_left
    · (intro wq hSq; (try dsimp only at hSq); go_simp; try with_reducible rfl)
    try simp only [q0P, q0Q, q0R, q0S]
    refine tkH 20 (v := ?_) rfl ?_ ?_
    rotate_left
    · (intro wq hSq; (try dsimp only at hSq); go_simp; try with_reducible rfl)
    try simp only [q0P, q0Q, q0R, q0S]
    refine wpAnyH_end (by kernel_rfl) ?_
    go_wp2
    go_ret
    exact ⟨rfl, hb23⟩
end
/- Walks: a disk: which half is active; a record's bytes. -/
section
open Go.RowKit Go.Shelf
/-- A disk. -/
structure Dk where
 (size : Nat)
 (h0 h1 : List UInt8)
 (fuse : Int)
 (failed : Bool)
structure Dk.ok (d : Dk) : Prop where
 l0 : d.h0.length = d.size
 l1 : d.h1.length = d.size
 lo : 64 ≤ d.size
 hi : d.size ≤ 262144
 f1 : -1 ≤ d.fuse
 f2 : d.fuse ≤ 9223372036854775807
structure DiskAt (w : World) (p b0 b1 : Nat) (d : Dk) : Prop where
 at_ : w.heap[p]? = some (.cells #[.slice (some ⟨b0, 0, none⟩) d.size d.size, .slice (some ⟨b1, 0, none⟩) d.size d.size, .int .i64 d.fuse, .bool d.failed] 57)
 a0 : HalfAt w b0 d.h0
 a1 : HalfAt w b1 d.h1
 n01 : ¬ b0 = b1
 n0 : ¬ b0 = p
 n1 : ¬ b1 = p
theorem DiskAt.below {w w' : World} {p b0 b1 B : Nat} {d : Dk} (h : DiskAt w p b0 b1 d) (hb : Below B w w') (hp : p < B) (h0 : b0 < B) (h1 : b1 < B) : DiskAt w' p b0 b1 d :=
 ⟨(hb.block _ hp).trans h.at_, h.a0.below hb h0, h.a1.below hb h1, h.n01, h.n0, h.n1⟩
theorem DiskAt.kept {w w' : World} {p b0 b1 : Nat} {d : Dk} (h : DiskAt w p b0 b1 d) (hb : Below w.heap.size w w') : DiskAt w' p b0 b1 d :=
 h.below hb (lt_of_heap h.at_) h.a0.lt h.a1.lt
theorem DiskAt.drew {w : World} {p b0 b1 : Nat} {d : Dk} (h : DiskAt w p b0 b1 d) : DiskAt w.drew p b0 b1 d := ⟨h.at_, h.a0, h.a1, h.n01, h.n0, h.n1⟩
theorem four_cells {w : World} {b : Nat} {v0 v1 v2 v3 : Value} {t : TypeId} (h : w.heap[b]? = some (.cells #[v0, v1, v2, v3] t)) :
  w.cell? ⟨b, 0, none⟩ = some v0 ∧ w.cell? ⟨b, 1, none⟩ = some v1 ∧ w.cell? ⟨b, 2, none⟩ = some v2 ∧ w.cell? ⟨b, 3, none⟩ = some v3 ∧ w.frozen? ⟨b, 2, none⟩ = false ∧ w.frozen? ⟨b, 3, none⟩ = false := by
 simp [World.cell?, World.frozen?, h]
/-! ### none -/
theorem none_no (p b : Nat) (n c : Nat) (w : World) (h : w.cell? ⟨p, 0, none⟩ = some (.slice (some ⟨b, 0, none⟩) n c)) :
  Calls Tryz.prog 63 #[.pointer (some ⟨p, 0, none⟩)] w fun e w' => e = .returned (.bool false) ∧ w = w' := by
 have he : (binOp .eql 54 (.slice (some ⟨b, 0, none⟩) n c) (.slice none 0 0)).run Tryz.prog w = .ok (.bool false) w := by kernel_rfl
 go_enter Tryz.func63, Tryz.ntmps63
 go_wp2
 go_ret
 exact ⟨rfl, rfl⟩
/-! ### active -/
def Dk.half (d : Dk) : Int := if genL d.h0 = 0 ∧ genL d.h1 = 0 then -1 else if genL d.h0 < genL d.h1 then 1 else 0
def Dk.gen (d : Dk) : Nat := if genL d.h0 = 0 ∧ genL d.h1 = 0 then 0 else if genL d.h0 < genL d.h1 then genL d.h1 else genL d.h0
theorem active_any (p b0 b1 : Nat) (d : Dk) (w : World) (hd : DiskAt w p b0 b1 d) (ho : d.ok) :
  Calls Tryz.prog 85 #[.pointer (some ⟨p, 0, none⟩)] w fun e w' => e = .returned (.tuple #[.int .i64 d.half, .int .u64 (d.gen : Int)]) ∧ Below w.heap.size w w' := by
 have HG0 := Lib.hid (fun W (h : HalfAt W b0 d.h0) => generation_any b0 d.h0 W h (by rw [ho.l0]; exact ho.lo) (by rw [ho.l0]; exact ho.hi))
 have HG1 := Lib.hid (fun W (h : HalfAt W b1 d.h1) => generation_any b1 d.h1 W h (by rw [ho.l1]; exact ho.lo) (by rw [ho.l1]; exact ho.hi))
 rw [ho.l0] at HG0
 rw [ho.l1] at HG1
 obtain ⟨k0, k1, -, -, -, -⟩ := four_cells hd.at_
 have HH := Lib.hid hd
 obtain ⟨x, hx⟩ : ∃ x, x = d.half := ⟨_, rfl⟩
 obtain ⟨y, hy⟩ : ∃ y, y = d.gen := ⟨_, rfl⟩
 rw [← hx, ← hy]
 unfold Dk.half at hx
 unfold Dk.gen at hy
 obtain ⟨g0, hg0⟩ : ∃ g, g = genL d.h0 := ⟨_, rfl⟩
 obtain ⟨g1, hg1⟩ : ∃ g, g = genL d.h1 := ⟨_, rfl⟩
 rw [← hg0, ← hg1] at hx hy
 rw [← hg0] at HG0
 rw [← hg1] at HG1
 have HX := Lib.hid hx
 have HY := Lib.hid hy
 clear hx hy hg0 hg1 hd
 go_enter Tryz.func85, Tryz.ntmps85
 go_upto_region 1 with (fail)
 refine wp_region_heldL (fun w' => w'.cell? ⟨p, 0, none⟩ = some (.slice (some ⟨b0, 0, none⟩) d.size d.size) ∧ w'.cell? ⟨p, 1, none⟩ = some (.slice (some ⟨b1, 0, none⟩) d.size d.size)) (by kernel_rfl) ⟨k0, k1⟩ (fun hS => ?_)
 refine tkH 0 (v := ?_) rfl ?_ ?_
 rotate_left
 ·(intro wq hSq; (try dsimp only at hSq); go_simp; try with_reducible rfl)
 try simp only [q0P, q0Q, q0R, q0S]
 refine tkH 1 (v := ?_) rfl ?_ ?_
 rotate_left
 ·(intro wq hSq; (try dsimp only at hSq); go_simp; try with_reducible rfl)
 try simp only [q0P, q0Q, q0R, q0S]
 refine tkH 2 (v := ?_) rfl ?_ ?_
 rotate_left
 ·(intro wq hSq; (try dsimp only at hSq); go_simp; try with_reducible rfl)
 try simp only [q0P, q0Q, q0R, q0S]
 refine tkH 3 (v := ?_) rfl ?_ ?_
 rotate_left
 ·(intro wq hSq; (try dsimp only at hSq); go_simp; try with_reducible rfl)
 try simp only [q0P, q0Q, q0R, q0S]
 refine tkH 4 (v := ?_) rfl ?_ ?_
 rotate_left
 ·(intro wq hSq; (try dsimp only at hSq); go_simp; try with_reducible rfl)
 try simp only [q0P, q0Q, q0R, q0S]
 refine tkH 6 (v := ?_) rfl ?_ ?_
 rotate_left
 ·(intro wq hSq; (try dsimp only at hSq); go_simp; try with_reducible rfl)
 try simp only [q0P, q0Q, q0R, q0S]
 refine tkH 7 (v := ?_) rfl ?_ ?_
 rotate_left
 ·(intro wq hSq; (try dsimp only at hSq); go_simp; try with_reducible rfl)
 try simp only [q0P, q0Q, q0R, q0S]
 refine tkH 8 (v := ?_) rfl ?_ ?_
 rotate_left
 ·(intro wq hSq; (try dsimp only at hSq); go_simp; try with_reducible rfl)
 try simp only [q0P, q0Q, q0R, q0S]
 refine tkH 9 (v := ?_) rfl ?_ ?_
 rotate_left
 ·(intro wq hSq; (try dsimp only at hSq); go_simp; try with_reducible rfl)
 try simp only [q0P, q0Q, q0R, q0S]
 refine tkH 10 (v := ?_) rfl ?_ ?_
 rotate_left
 ·(intro wq hSq; (try dsimp only at hSq); go_simp; try with_reducible rfl)
 try simp only [q0P, q0Q, q0R, q0S]
 refine wpAnyH_stepL 5 (by kernel_rfl) rfl (fun K hK => ?_)
 go_simp
 go_at_call 112
 refine (HG0.out _ HH.out.drew.a0).mono ?_
 rintro e w2 ⟨rfl, hb2d⟩
 have hb2 : Below w.heap.size w w2 := ((Below.refl w.heap.size w).drew).trans hb2d
 have hd2 := HH.out.kept hb2
 obtain ⟨j0, j1, -, -, -, -⟩ := four_cells hd2.at_
 have HD2 := Lib.hid hd2
 refine hK.out _ _ ⟨j0, j1⟩ (fun hS2 => ?_)
 clear hK K hS hd2
 try simp only [q0P, q0Q, q0R, q0S]
 refine wpAnyH_stepL 11 (by kernel_rfl) rfl (fun K hK => ?_)
 go_simp
 go_at_call 112
 refine (HG1.out _ HD2.out.a1).mono ?_
 rintro e w3 ⟨rfl, hb3d⟩
 have hb3 : Below w.heap.size w w3 := hb2.trans (hb3d.mono hb2.size)
 obtain ⟨l0, l1, -, -, -, -⟩ := four_cells (HH.out.kept hb3).at_
 refine hK.out _ _ ⟨l0, l1⟩ (fun hS3 => ?_)
 clear hK K hS2
 try simp only [q0P, q0Q, q0R, q0S]
 refine tkH 12 (v := ?_) rfl ?_ ?_
 rotate_left
 ·(intro wq hSq; (try dsimp only at hSq); go_simp; try with_reducible rfl)
 try simp only [q0P, q0Q, q0R, q0S]
 refine tkH 13 (v := ?_) rfl ?_ ?_
 rotate_left
 ·(intro wq hSq; (try dsimp only at hSq); go_simp; try with_reducible rfl)
 try simp only [q0P, q0Q, q0R, q0S]
 refine wpAnyH_end (by kernel_rfl) ?_
 by_cases c0 : g0 = 0
 ·by_cases c1 : g1 = 0
  ·have t0 : ((g0 : Int) == 0) = true := by simp [c0]
   have t1 : ((g1 : Int) == 0) = true := by simp [c1]
   obtain rfl : x = -1 := by rw [HX.out, if_pos ⟨c0, c1⟩]
   obtain rfl : y = 0 := by rw [HY.out, if_pos ⟨c0, c1⟩]
   go_wp2
   go_ret2
   exact ⟨rfl, hb3⟩
  ·have t0 : ((g0 : Int) == 0) = true := by simp [c0]
   have t1 : ((g1 : Int) == 0) = false := by rw [beq_eq_false_iff_ne]; omega
   have t2 : (g0 : Int) < (g1 : Int) := by omega
   obtain rfl : x = 1 := by rw [HX.out, if_neg (by omega), if_pos (by omega)]
   obtain rfl : y = g1 := by rw [HY.out, if_neg (by omega), if_pos (by omega)]
   go_wp2
   go_ret2
   exact ⟨rfl, hb3⟩
 ·have t0 : ((g0 : Int) == 0) = false := by rw [beq_eq_false_iff_ne]; omega
  by_cases c2 : g0 < g1
  ·have t2 : (g0 : Int) < (g1 : Int) := by omega
   obtain rfl : x = 1 := by rw [HX.out, if_neg (by omega), if_pos c2]
   obtain rfl : y = g1 := by rw [HY.out, if_neg (by omega), if_pos c2]
   go_wp2
   go_ret2
   exact ⟨rfl, hb3⟩
  ·have t2 : ¬ (g0 : Int) < (g1 : Int) := by omega
   obtain rfl : x = 0 := by rw [HX.out, if_neg (by omega), if_neg c2]
   obtain rfl : y = g0 := by rw [HY.out, if_neg (by omega), if_neg c2]
   go_wp2
   go_ret2
   exact ⟨rfl, hb3⟩
end
/- Walks: a disk: a record's bytes. -/
section
open Go.RowKit Go.Shelf
def markL (g at_ : Nat) (data : List UInt8) : List UInt8 := eightL g ++ (eightL at_).drop 4 ++ data
def bodyL (g at_ : Nat) (data : List UInt8) : List UInt8 := (eightL data.length).drop 4 ++ data ++ shortL (markL g at_ data)
theorem bodyL_length (g at_ : Nat) (data : List UInt8) : (bodyL g at_ data).length = 12 + data.length := by
 unfold bodyL
 rw [List.length_append, List.length_append, List.length_drop, eightL_length, shortL_length]; omega
theorem bytesOf_append (a b : List UInt8) : bytesOf a ++ bytesOf b = bytesOf (a ++ b) := by
 apply ByteArray.ext
 simp [bytesOf]
theorem eight_size (x : Nat) : (bytesOf (eightL x)).size = 8 := eightL_length x
theorem eight_cut (x : Nat) : (bytesOf (eightL x)).extract 4 8 = bytesOf ((eightL x).drop 4) := by
 apply ByteArray.ext
 have h := eightL_length x
 rw [ByteArray.data_extract]
 apply Array.ext'
 simp [bytesOf, List.drop_take]
 rw [List.take_of_length_le (by rw [List.length_drop]; omega)]
theorem body_any (g at_ : Nat) (data : List UInt8) (hg : g < 18446744073709551616) (hat : at_ ≤ 1000000) (hd : data.length ≤ 65535) (w : World) :
  Calls Tryz.prog 88 #[.int .u64 (g : Int), .int .i64 (at_ : Int), .string (bytesOf data)] w fun e w' => e = .returned (.string (bytesOf (bodyL g at_ data))) ∧ Below w.heap.size w w' := by
 obtain ⟨n, hn⟩ : ∃ n, n = data.length := ⟨_, rfl⟩
 have hs : (bytesOf data).size = n := by rw [hn]; rfl
 have hs1 : ((bytesOf data).size : Int) = (n : Int) := by rw [hs]
 have hw1 : IntKind.u64.wrap (n : Int) = (n : Int) := IntWalk.u64_in _ ⟨by omega, by omega⟩
 have hw2 : IntKind.u64.wrap (at_ : Int) = (at_ : Int) := IntWalk.u64_in _ ⟨by omega, by omega⟩
 have HN := Lib.hid hn
 have a1 := eight_size
 have a2 := eight_cut
 have a3 := bytesOf_append
 have a4 : ∀ x, (bytesOf ((eightL x).drop 4)).size = 4 := fun x => by show ((eightL x).drop 4).length = 4; rw [List.length_drop, eightL_length]
 have z2 : (bytesOf ((eightL n).drop 4 ++ data)).size = 4 + n := by show ((eightL n).drop 4 ++ data).length = _; rw [List.length_append, List.length_drop, eightL_length, ← hn]
 have z3 : (bytesOf (eightL g ++ (eightL at_).drop 4)).size = 12 := by show (eightL g ++ (eightL at_).drop 4).length = _; rw [List.length_append, List.length_drop, eightL_length, eightL_length]
 have z4 : ∀ l, (bytesOf (shortL l)).size = 8 := fun l => shortL_length l
 have c1 : ¬ 9223372036854775807 < 4 + n := by omega
 have c2 : ¬ 9223372036854775807 < 12 + n := by omega
 have c3 : ¬ 9223372036854775807 < 4 + n + 8 := by omega
 clear hn
 go_enter Tryz.func88, Tryz.ntmps88
 go_upto_region 1 with (fail)
 refine wp_region_heldL (fun _ => True) (by kernel_rfl) trivial (fun hS => ?_)
 refine tkH 0 (v := ?_) rfl ?_ ?_
 rotate_left
 ·(intro wq hSq; (try dsimp only at hSq); go_simp; try with_reducible rfl)
 try simp only [q0P, q0Q, q0R, q0S]
 refine tkH 1 (v := ?_) rfl ?_ ?_
 rotate_left
 ·(intro wq hSq; (try dsimp only at hSq); go_simp; try with_reducible rfl)
 try simp only [q0P, q0Q, q0R, q0S]
 refine tkH 2 (v := ?_) rfl ?_ ?_
 rotate_left
 ·(intro wq hSq; (try dsimp only at hSq); go_simp; try with_reducible rfl)
 try simp only [q0P, q0Q, q0R, q0S]
 refine tkH 5 (v := ?_) rfl ?_ ?_
 rotate_left
 ·(intro wq hSq; (try dsimp only at hSq); go_simp; try with_reducible rfl)
 try simp only [q0P, q0Q, q0R, q0S]
 refine tkH 7 (v := ?_) rfl ?_ ?_
 rotate_left
 ·(intro wq hSq; (try dsimp only at hSq); go_simp; try with_reducible rfl)
 try simp only [q0P, q0Q, q0R, q0S]
 refine tkH 9 (v := ?_) rfl ?_ ?_
 rotate_left
 ·(intro wq hSq; (try dsimp only at hSq); go_simp; try with_reducible rfl)
 try simp only [q0P, q0Q, q0R, q0S]
 refine tkH 10 (v := ?_) rfl ?_ ?_
 rotate_left
 ·(intro wq hSq; (try dsimp only at hSq); go_simp; try with_reducible rfl)
 try simp only [q0P, q0Q, q0R, q0S]
 refine tkH 14 (v := ?_) rfl ?_ ?_
 rotate_left
 ·(intro wq hSq; (try dsimp only at hSq); go_simp; try with_reducible rfl)
 try simp only [q0P, q0Q, q0R, q0S]
 refine wpAnyH_stepL 3 (by kernel_rfl) rfl (fun K hK => ?_)
 go_simp
 go_at_call 18
 refine (eightN_any n (by have := HN.out; omega) _).mono ?_
 rintro e w2 ⟨rfl, hb2d⟩
 have hb2 : Below w.heap.size w w2 := ((Below.refl w.heap.size w).drew).trans hb2d
 refine hK.out _ _ trivial (fun _ => ?_)
 clear hK K
 try simp only [q0P, q0Q, q0R, q0S]
 refine tkH 4 (v := ?_) rfl ?_ ?_
 rotate_left
 ·(intro wq hSq; (try dsimp only at hSq); go_simp; try with_reducible rfl)
 try simp only [q0P, q0Q, q0R, q0S]
 refine tkH 6 (v := ?_) rfl ?_ ?_
 rotate_left
 ·(intro wq hSq; (try dsimp only at hSq); go_simp; try with_reducible rfl)
 try simp only [q0P, q0Q, q0R, q0S]
 refine wpAnyH_stepL 8 (by kernel_rfl) rfl (fun K hK => ?_)
 go_simp
 go_at_call 18
 refine (eightN_any g hg _).mono ?_
 rintro e w3 ⟨rfl, hb3d⟩
 have hb3 := hb2.trans (hb3d.mono hb2.size)
 refine hK.out _ _ trivial (fun _ => ?_)
 clear hK K
 try simp only [q0P, q0Q, q0R, q0S]
 refine wpAnyH_stepL 11 (by kernel_rfl) rfl (fun K hK => ?_)
 go_simp
 go_at_call 18
 refine (eightN_any at_ (by omega) _).mono ?_
 rintro e w4 ⟨rfl, hb4d⟩
 have hb4 := hb3.trans (hb4d.mono hb3.size)
 refine hK.out _ _ trivial (fun _ => ?_)
 clear hK K
 try simp only [q0P, q0Q, q0R, q0S]
 refine tkH 12 (v := ?_) rfl ?_ ?_
 rotate_left
 ·(intro wq hSq; (try dsimp only at hSq); go_simp; try with_reducible rfl)
 try simp only [q0P, q0Q, q0R, q0S]
 refine tkH 13 (v := ?_) rfl ?_ ?_
 rotate_left
 ·(intro wq hSq; (try dsimp only at hSq); go_simp; try with_reducible rfl)
 try simp only [q0P, q0Q, q0R, q0S]
 refine tkH 15 (v := ?_) rfl ?_ ?_
 rotate_left
 ·(intro wq hSq; (try dsimp only at hSq); go_simp; try with_reducible rfl)
 try simp only [q0P, q0Q, q0R, q0S]
 refine wpAnyH_stepL 16 (by kernel_rfl) rfl (fun K hK => ?_)
 go_simp
 go_at_call 19
 refine (shortN_any (eightL g ++ (eightL at_).drop 4 ++ data) (by rw [List.length_append, List.length_append, List.length_drop, eightL_length, eightL_length]; have := HN.out; omega) _).mono ?_
 rintro e w5 ⟨rfl, hb5d⟩
 have hb5 := hb4.trans (hb5d.mono hb4.size)
 refine hK.out _ _ trivial (fun _ => ?_)
 clear hK K
 try simp only [q0P, q0Q, q0R, q0S]
 refine tkH 17 (v := ?_) rfl ?_ ?_
 rotate_left
 ·(intro wq hSq; (try dsimp only at hSq); go_simp; try with_reducible rfl)
 try simp only [q0P, q0Q, q0R, q0S]
 refine tkH 18 (v := ?_) rfl ?_ ?_
 rotate_left
 ·(intro wq hSq; (try dsimp only at hSq); go_simp; try with_reducible rfl)
 try simp only [q0P, q0Q, q0R, q0S]
 refine wpAnyH_end (by kernel_rfl) ?_
 go_wp2
 go_ret
 refine ⟨?_, hb5⟩
 rw [HN.out]
 rfl
end
/- Moves of a walk through a region that draws its order, by hand, within a fence. -/
end Go.Proofs.YtoggmplkbiidhaaGreatDoor
namespace Go
open RowKit
section
variable {F : Fence} {n : Nat} {P : Program} {ops : Array Oper} {Q : Exit → Act → World → Prop} {S : World → Prop}
/-- It yields its value in every world that meets S, and calls nothing. -/
def YieldsIfF (P : Program) (ops : Array Oper) (S : World → Prop) (o : Oper) (v : Value) (a : Act) : Prop := YieldsIf P ops S o v a ∧ ∀ w, o.about P w a.eval = none
theorem YieldsIfF.wpOpIn {i : Nat} {o : Oper} {v : Value} {a : Act} (hro : F.round = none) (hi : ops[i]? = some o) (hy : YieldsIfF P ops S o v a)
  {K : Act → World → Prop} {w : World} (hS : S w) (h : K (a.put o.dst v) w) : wpOpIn F n P ops Q i K a w := by
 unfold Go.wpOpIn
 simp only [hi]
 have hab : ∀ f, o.about P w a.eval = some f → F.fn f := fun f hf => by rw [hy.2 w] at hf; cases hf
 rcases hy.1 with ⟨hw, hv⟩ | ⟨hw, rfl⟩
 ·simp only [hw, if_true, Oper.wpIn, hro, Oper.semAt_none, hv w hS, Oper.uponIn]; exact ⟨hab, h⟩
 ·simp only [hw, Bool.false_eq_true, if_false]; exact ⟨hab, h⟩
theorem YieldsIfF.of_same {o : Oper} {v : Value} {a a' : Act} (hy : YieldsIfF P ops S o v a) (he : execOp a'.eval o = execOp a.eval o)
  (hw : Region.wanted o (yielded ops a'.tmps) = Region.wanted o (yielded ops a.tmps)) (hb : ∀ w, o.about P w a'.eval = o.about P w a.eval) : YieldsIfF P ops S o v a' :=
 ⟨hy.1.of_same he hw, fun w => by rw [hb w]; exact hy.2 w⟩
theorem wpOpIn_putIf {j : Nat} {oi oj : Oper} {v : Value} (hro : F.round = none) (hj : ops[j]? = some oj) (hap : oi.apart ops oj = true)
  (hsi : ∀ cs b, oi.op ≠ .select cs b) (hsj : ∀ cs b, oj.op ≠ .select cs b)
  (hQ : ∀ c a w, Q (.panic c) (a.put oi.dst v) w → Q (.panic c) a w) {K : Act → World → Prop} {a : Act} {w : World}
  (hy : YieldsIfF P ops S oi v a) (h : wpOpIn F n P ops Q j K (a.put oi.dst v) w) :
  wpOpIn F n P ops Q j (fun a' w' => YieldsIfF P ops S oi v a' ∧ K (a'.put oi.dst v) w') a w := by
 obtain ⟨h1, h2, h3⟩ := Oper.apart_spec hap
 have keep : ∀ (a : Act), YieldsIfF P ops S oi v a → ∀ u, YieldsIfF P ops S oi v (a.put oj.dst u) := fun a hy u =>
  hy.of_same (execOp_put oi hsi a oj.dst u h3) (wanted_put oi a oj.dst u h3) (fun w => about_put oi w a oj.dst u h3)
 have keepD : ∀ d, YieldsIfF P ops S oi v { a with defers := d :: a.defers } := fun d => hy.of_same rfl rfl (fun _ => rfl)
 unfold wpOpIn at *
 simp only [hj] at *
 rw [wanted_put oj a oi.dst v h1, about_put oj w a oi.dst v h1] at h
 split
 ·rename_i hw
  simp only [hw, if_true] at h
  unfold Oper.wpIn at *
  rw [about_put oj w a oi.dst v h1] at h
  refine ⟨h.1, ?_⟩
  have h := h.2
  rw [hro, Oper.semAt_none, execOp_put oj hsj a oi.dst v h1] at h
  rw [hro, Oper.semAt_none]
  generalize (execOp a.eval oj).run P w = r at *
  cases r with
  | ok x w' =>
   cases x <;> simp only [Oper.uponIn] at h ⊢
   case value u => exact ⟨keep a hy u, by rw [← Act.put_comm a v u h2]; exact h⟩
   case skip => exact ⟨keep a hy _, by rw [← Act.put_comm a v undef h2]; exact h⟩
   case defer d =>
    refine ⟨keep _ (keepD d) _, ?_⟩
    rw [← Act.put_comm _ v undef h2, ← Act.put_defers]
    exact h
   case enter f args =>
    refine ⟨h.1, CallsIn.mono h.2 fun e w'' he => ?_⟩
    cases e with
    | returned u => exact ⟨keep a hy u, by rw [← Act.put_comm a v u h2]; exact he⟩
    | panicked c => exact hQ _ _ _ he
    | outgrown => exact he
   case row row args => exact ⟨h.1, RowsIn.mono h.2 fun u w'' he => ⟨keep a hy u, by rw [← Act.put_comm a v u h2]; exact he⟩⟩
   case round l f tmps assign body =>
    refine ⟨h.1, RoundIn.mono h.2 fun e w'' he => ?_⟩
    cases e with
    | returned u => exact ⟨keep a hy u, by rw [← Act.put_comm a v u h2]; exact he⟩
    | panicked c => exact hQ _ _ _ he
    | outgrown => exact he
  | halt x w' =>
   cases x <;> simp only [Oper.uponIn] at h ⊢
   case panic u => exact hQ _ _ _ h
 ·rename_i hw
  simp only [hw] at h
  exact ⟨h.1, keep a hy _, by rw [← Act.put_comm a v undef h2]; exact h.2⟩
def wpAnyHIn (F : Fence) (n : Nat) (P : Program) (ops : Array Oper) (Q : Exit → Act → World → Prop) (S : World → Prop) : Nat → Array Bool → Act → World → Prop
 | 0, listed, a, w => Region.ready .any ops listed = [] ∧ Q .normal a w
 | fuel + 1, listed, a, w =>
  (Region.ready .any ops listed = [] → Q .normal a w) ∧
  ∀ i ∈ Region.ready .any ops listed, wpOpIn F n P ops Q i (fun a' w' => S w' ∧ wpAnyHIn F n P ops Q S fuel (listed.setIfInBounds i true) a' w') a w
theorem wpAnyIn_of_heldIn : ∀ (fuel : Nat) (listed : Array Bool) (a : Act) (w : World), wpAnyHIn F n P ops Q S fuel listed a w → wpAnyIn F n P .any ops Q fuel listed a w
 | 0, _, _, _, h => h
 | fuel + 1, _, _, _, h => ⟨h.1, fun i hi => wpOpIn_mono (fun a' w' h' => wpAnyIn_of_heldIn fuel _ a' w' h'.2) (h.2 i hi)⟩
theorem wpAnyHIn_first {i : Nat} {oi : Oper} {v : Value} (hro : F.round = none) (hi : ops[i]? = some oi) (hsel : ∀ (j : Nat) (o : Oper) cs b, ops[j]? = some o → o.op ≠ .select cs b)
  (hQ : ∀ c a w, Q (.panic c) (a.put oi.dst v) w → Q (.panic c) a w) :
  ∀ (fuel : Nat) (listed : Array Bool) (a : Act) (w : World),
   (∀ j oj, ops[j]? = some oj → j ≠ i → listed.getD j true = false → (∀ e ∈ oj.after, Region.binds .any e = true → e.on ≠ i) → oi.apart ops oj = true) →
   i ∈ Region.ready .any ops listed → YieldsIfF P ops S oi v a → S w →
   wpAnyHIn F n P ops Q S fuel (listed.setIfInBounds i true) (a.put oi.dst v) w → wpAnyHIn F n P ops Q S (fuel + 1) listed a w := by
 intro fuel
 induction fuel with
 | zero =>
  intro listed a w _ hr hy hS H
  refine ⟨fun h => (by rw [h] at hr; cases hr), fun j hj => ?_⟩
  by_cases hji : j = i
  ·subst hji; exact hy.wpOpIn hro hi hS ⟨hS, H⟩
  ·have := ready_mono hj hji
   rw [H.1] at this
   cases this
 | succ fuel ih =>
  intro listed a w hfree hr hy hS H
  refine ⟨fun h => (by rw [h] at hr; cases hr), fun j hj => ?_⟩
  by_cases hji : j = i
  ·subst hji; exact hy.wpOpIn hro hi hS ⟨hS, H⟩
  ·have h1 := H.2 j (ready_mono hj hji)
   obtain ⟨hjun, oj, hoj, hall⟩ := mem_ready.1 hj
   have hnot : ∀ e ∈ oj.after, Region.binds .any e = true → e.on ≠ i := fun e he hb heq => by
    have h1 := hall e he hb
    rw [heq] at h1
    exact unlisted_not (mem_ready.1 hr).1 h1
   have h2 := wpOpIn_putIf hro hoj (hfree j oj hoj hji hjun hnot) (fun cs b => hsel i oi cs b hi) (fun cs b => hsel j oj cs b hoj) hQ hy h1
   have hfree' : ∀ k ok, ops[k]? = some ok → k ≠ i → (listed.setIfInBounds j true).getD k true = false →
     (∀ e ∈ ok.after, Region.binds .any e = true → e.on ≠ i) → oi.apart ops ok = true := fun k ok hk hki hun hno => by
    refine hfree k ok hk hki ?_ hno
    by_cases hjk : j = k
    ·subst hjk; exact hjun
    ·rw [getD_set_ne true hjk] at hun; exact hun
   refine wpOpIn_mono (fun a' w' h3 => ⟨h3.2.1, ih (listed.setIfInBounds j true) a' w' hfree' (ready_mono hr (Ne.symm hji)) h3.1 h3.2.1 ?_⟩) h2
   rw [Array.setIfInBounds_comm _ _ hji]
   exact h3.2.2
theorem wpAnyHIn_takeL (i : Nat) {oi : Oper} {v : Value} {fuel : Nat} {listed : Array Bool} {a : Act} {w : World} (hro : F.round = none) (hr : (Region.ready .any ops listed).contains i = true) (hi : ops.toList[i]? = some oi)
  (hs : Region.noSelect ops = true) (hf : Region.free .any ops listed i = true)
  (hQ : ∀ c a w, Q (.panic c) (a.put oi.dst v) w → Q (.panic c) a w) (hy : YieldsIf P ops S oi v a) (hab : ∀ w, oi.about P w a.eval = none) (hS : S w)
  (h : wpAnyHIn F n P ops Q S fuel (listed.setIfInBounds i true) (a.put oi.dst v) w) : wpAnyHIn F n P ops Q S (fuel + 1) listed a w :=
 wpAnyHIn_first hro (by simpa using hi) (Region.noSelect_spec hs) hQ fuel listed a w (Region.free_spec (by simpa using hi) hf) (by simpa using hr) ⟨hy, hab⟩ hS h
theorem wpAnyHIn_stepL (i : Nat) {o : Oper} {fuel : Nat} {listed : Array Bool} {a : Act} {w : World} (hr : Region.ready .any ops listed = [i]) (ho : ops.toList[i]? = some o)
  (h : ∀ K' : Act → World → Prop, Shut (∀ a w, S w → (S w → wpAnyHIn F n P ops Q S fuel (listed.setIfInBounds i true) a w) → K' a w) → if Region.wanted o (yielded ops a.tmps) = true then Oper.wpIn F n P o a w K' Q else (∀ f, o.about P w a.eval = some f → F.fn f) ∧ K' (a.put o.dst undef) w) :
  wpAnyHIn F n P ops Q S (fuel + 1) listed a w := by
 refine ⟨fun h0 => (by rw [hr] at h0; cases h0), fun j hj => ?_⟩
 rw [hr] at hj
 obtain rfl : j = i := by simpa using hj
 exact wpOpIn_step (by simpa using ho) (fun K' hK => h K' (fun a w hS hW => hK a w ⟨hS, hW hS⟩))
theorem wpAnyHIn_end {fuel : Nat} {listed : Array Bool} {a : Act} {w : World} (hr : Region.ready .any ops listed = []) (h : Q .normal a w) : wpAnyHIn F n P ops Q S fuel listed a w := by
 cases fuel with
 | zero => exact ⟨hr, h⟩
 | succ fuel => exact ⟨fun _ => h, by rw [hr]; simp⟩
/-! ### The same, where nothing is asked behind the operation L, which waits for all that is taken first -/
def depB (ops : Array Oper) : Nat → Nat → Nat → Bool
 | 0, _, _ => false
 | f + 1, a, i => ((ops.toList[a]?).map fun o => o.after.any fun e => Region.binds .any e && (e.on == i || depB ops f e.on i)).getD false
def Closed (ops : Array Oper) (listed : Array Bool) : Prop := ∀ k ok, ops[k]? = some ok → listed.getD k false = true → ∀ e ∈ ok.after, Region.binds .any e = true → listed.getD e.on false = true
theorem closed_dep {ops : Array Oper} {listed : Array Bool} (hc : Closed ops listed) (i : Nat) : ∀ f a, listed.getD a false = true → depB ops f a i = true → listed.getD i false = true
 | 0, _, _, h => by cases h
 | f + 1, a, ha, h => by
  unfold depB at h
  cases ho : ops.toList[a]? with
  | none => rw [ho] at h; cases h
  | some o =>
   rw [ho, Option.map_some, Option.getD_some, Array.any_eq_true] at h
   obtain ⟨k, hk, h2⟩ := h
   rw [Bool.and_eq_true, Bool.or_eq_true] at h2
   have h3 := hc a o (by simpa using ho) ha _ (Array.getElem_mem hk) h2.1
   rcases h2.2 with h4 | h4
   ·rw [beq_iff_eq.1 h4] at h3; exact h3
   ·exact closed_dep hc i f _ h3 h4
theorem ready_dep {ops : Array Oper} {listed : Array Bool} (hc : Closed ops listed) {L i f : Nat} (hL : L ∈ Region.ready .any ops listed) (h : depB ops f L i = true) : listed.getD i false = true := by
 obtain ⟨-, o, ho, hall⟩ := mem_ready.1 hL
 cases f with
 | zero => cases h
 | succ f =>
  unfold depB at h
  have ho' : ops.toList[L]? = some o := by simpa using ho
  rw [ho', Option.map_some, Option.getD_some, Array.any_eq_true] at h
  obtain ⟨k, hk, h2⟩ := h
  rw [Bool.and_eq_true, Bool.or_eq_true] at h2
  have h3 := hall _ (Array.getElem_mem hk) h2.1
  rcases h2.2 with h4 | h4
  ·rw [beq_iff_eq.1 h4] at h3; exact h3
  ·exact closed_dep hc i f _ h3 h4
theorem getD_false_set {listed : Array Bool} {j k : Nat} (h : listed.getD k false = true) : (listed.setIfInBounds j true).getD k false = true := by
 by_cases hjk : j = k
 ·subst hjk
  rcases Nat.lt_or_ge j listed.size with h' | h'
  ·simp [h']
  ·simp [Array.getElem?_eq_none h'] at h
 ·rw [getD_set_ne false hjk]; exact h
theorem Closed.set {ops : Array Oper} {listed : Array Bool} (hc : Closed ops listed) {j : Nat} (hj : j ∈ Region.ready .any ops listed) : Closed ops (listed.setIfInBounds j true) := by
 intro k ok hk hl e he hb
 by_cases hjk : j = k
 ·subst hjk
  obtain ⟨-, o, ho, hall⟩ := mem_ready.1 hj
  rw [hk] at ho; injection ho with ho; subst ho
  exact getD_false_set (hall e he hb)
 ·rw [getD_set_ne false hjk] at hl
  exact getD_false_set (hc k ok hk hl e he hb)
theorem closed_start {ops : Array Oper} (m : Nat) : Closed ops (Array.replicate m false) := by
 intro k ok _ hl
 rcases Nat.lt_or_ge k m with h | h
 ·simp [h] at hl
 ·simp [Array.getElem?_eq_none, h] at hl
def wpAnyKIn (F : Fence) (n : Nat) (P : Program) (ops : Array Oper) (Q : Exit → Act → World → Prop) (S : World → Prop) (L : Nat) : Nat → Array Bool → Act → World → Prop
 | 0, listed, a, w => Region.ready .any ops listed = [] ∧ Q .normal a w
 | fuel + 1, listed, a, w =>
  (Region.ready .any ops listed = [] → Q .normal a w) ∧
  ∀ i ∈ Region.ready .any ops listed, wpOpIn F n P ops Q i (fun a' w' => ((listed.setIfInBounds i true).getD L true = false → S w') ∧ wpAnyKIn F n P ops Q S L fuel (listed.setIfInBounds i true) a' w') a w
theorem wpAnyIn_of_K {L : Nat} : ∀ (fuel : Nat) (listed : Array Bool) (a : Act) (w : World), wpAnyKIn F n P ops Q S L fuel listed a w → wpAnyIn F n P .any ops Q fuel listed a w
 | 0, _, _, _, h => h
 | fuel + 1, _, _, _, h => ⟨h.1, fun i hi => wpOpIn_mono (fun a' w' h' => wpAnyIn_of_K fuel _ a' w' h'.2) (h.2 i hi)⟩
theorem wpAnyKIn_first {i L f : Nat} {oi : Oper} {v : Value} (hd : depB ops f L i = true) (hro : F.round = none) (hi : ops[i]? = some oi) (hsel : ∀ (j : Nat) (o : Oper) cs b, ops[j]? = some o → o.op ≠ .select cs b)
  (hQ : ∀ c a w, Q (.panic c) (a.put oi.dst v) w → Q (.panic c) a w) :
  ∀ (fuel : Nat) (listed : Array Bool) (a : Act) (w : World), Closed ops listed → listed.getD L true = false →
   (∀ j oj, ops[j]? = some oj → j ≠ i → listed.getD j true = false → (∀ e ∈ oj.after, Region.binds .any e = true → e.on ≠ i) → oi.apart ops oj = true) →
   i ∈ Region.ready .any ops listed → YieldsIfF P ops S oi v a → S w →
   wpAnyKIn F n P ops Q S L fuel (listed.setIfInBounds i true) (a.put oi.dst v) w → wpAnyKIn F n P ops Q S L (fuel + 1) listed a w := by
 intro fuel
 induction fuel with
 | zero =>
  intro listed a w _ _ _ hr hy hS H
  refine ⟨fun h => (by rw [h] at hr; cases hr), fun j hj => ?_⟩
  by_cases hji : j = i
  ·subst hji; exact hy.wpOpIn hro hi hS ⟨fun _ => hS, H⟩
  ·have := ready_mono hj hji
   rw [H.1] at this
   cases this
 | succ fuel ih =>
  intro listed a w hcl hL hfree hr hy hS H
  refine ⟨fun h => (by rw [h] at hr; cases hr), fun j hj => ?_⟩
  by_cases hji : j = i
  ·subst hji; exact hy.wpOpIn hro hi hS ⟨fun _ => hS, H⟩
  ·have hjL : j ≠ L := by
    rintro rfl
    exact unlisted_not (mem_ready.1 hr).1 (ready_dep hcl hj hd)
   have h1 := H.2 j (ready_mono hj hji)
   obtain ⟨hjun, oj, hoj, hall⟩ := mem_ready.1 hj
   have hnot : ∀ e ∈ oj.after, Region.binds .any e = true → e.on ≠ i := fun e he hb heq => by
    have h1 := hall e he hb
    rw [heq] at h1
    exact unlisted_not (mem_ready.1 hr).1 h1
   have h2 := wpOpIn_putIf hro hoj (hfree j oj hoj hji hjun hnot) (fun cs b => hsel i oi cs b hi) (fun cs b => hsel j oj cs b hoj) hQ hy h1
   have hfree' : ∀ k ok, ops[k]? = some ok → k ≠ i → (listed.setIfInBounds j true).getD k true = false →
     (∀ e ∈ ok.after, Region.binds .any e = true → e.on ≠ i) → oi.apart ops ok = true := fun k ok hk hki hun hno => by
    refine hfree k ok hk hki ?_ hno
    by_cases hjk : j = k
    ·subst hjk; exact hjun
    ·rw [getD_set_ne true hjk] at hun; exact hun
   have hL' : (listed.setIfInBounds j true).getD L true = false := by rw [getD_set_ne true hjL]; exact hL
   have hLi : ((listed.setIfInBounds i true).setIfInBounds j true).getD L true = false := by
    have hiL : i ≠ L := by
     rintro rfl
     exact unlisted_not (mem_ready.1 hr).1 (ready_dep hcl hr hd)
    rw [getD_set_ne true hjL, getD_set_ne true hiL]; exact hL
   refine wpOpIn_mono (fun a' w' h3 => ⟨fun _ => h3.2.1 hLi, ih (listed.setIfInBounds j true) a' w' (hcl.set hj) hL' hfree' (ready_mono hr (Ne.symm hji)) h3.1 (h3.2.1 hLi) ?_⟩) h2
   rw [Array.setIfInBounds_comm _ _ hji]
   exact h3.2.2
/-- A state of the region, with what is known of the order so far. -/
def wpAnyKC (F : Fence) (n : Nat) (P : Program) (ops : Array Oper) (Q : Exit → Act → World → Prop) (S : World → Prop) (L : Nat) (fuel : Nat) (listed : Array Bool) (a : Act) (w : World) : Prop := Closed ops listed → wpAnyKIn F n P ops Q S L fuel listed a w
theorem wpAnyKC_takeL (i f : Nat) {L : Nat} {oi : Oper} {v : Value} {fuel : Nat} {listed : Array Bool} {a : Act} {w : World} (hro : F.round = none) (hd : depB ops f L i = true) (hL : listed.getD L true = false) (hr : (Region.ready .any ops listed).contains i = true) (hi : ops.toList[i]? = some oi)
  (hs : Region.noSelect ops = true) (hf : Region.free .any ops listed i = true)
  (hQ : ∀ c a w, Q (.panic c) (a.put oi.dst v) w → Q (.panic c) a w) (hy : YieldsIf P ops S oi v a) (hab : ∀ w, oi.about P w a.eval = none) (hS : S w)
  (h : wpAnyKC F n P ops Q S L fuel (listed.setIfInBounds i true) (a.put oi.dst v) w) : wpAnyKC F n P ops Q S L (fuel + 1) listed a w := fun hcl =>
 wpAnyKIn_first hd hro (by simpa using hi) (Region.noSelect_spec hs) hQ fuel listed a w hcl hL (Region.free_spec (by simpa using hi) hf) (by simpa using hr) ⟨hy, hab⟩ hS (h (hcl.set (by simpa using hr)))
theorem wpAnyKC_stepL (i : Nat) {L : Nat} {o : Oper} {fuel : Nat} {listed : Array Bool} {a : Act} {w : World} (hr : Region.ready .any ops listed = [i]) (ho : ops.toList[i]? = some o)
  (h : ∀ K' : Act → World → Prop, Shut (∀ a w, ((listed.setIfInBounds i true).getD L true = false → S w) → wpAnyKC F n P ops Q S L fuel (listed.setIfInBounds i true) a w → K' a w) → if Region.wanted o (yielded ops a.tmps) = true then Oper.wpIn F n P o a w K' Q else (∀ f, o.about P w a.eval = some f → F.fn f) ∧ K' (a.put o.dst undef) w) :
  wpAnyKC F n P ops Q S L (fuel + 1) listed a w := fun hcl => by
 refine ⟨fun h0 => (by rw [hr] at h0; cases h0), fun j hj => ?_⟩
 rw [hr] at hj
 obtain rfl : j = i := by simpa using hj
 exact wpOpIn_step (by simpa using ho) (fun K' hK => h K' (fun a w hS hW => hK a w ⟨hS, hW (hcl.set (by rw [hr]; simp))⟩))
theorem wpAnyKC_end {L fuel : Nat} {listed : Array Bool} {a : Act} {w : World} (hr : Region.ready .any ops listed = []) (h : Q .normal a w) : wpAnyKC F n P ops Q S L fuel listed a w := fun _ => by
 cases fuel with
 | zero => exact ⟨hr, h⟩
 | succ fuel => exact ⟨fun _ => h, by rw [hr]; simp⟩
theorem wpIn_region_K {id : Nat} {a : Act} {w : World} (S : World → Prop) (L : Nat) (hm : P.follows .mixedOrders = true) (hS : S w.drew)
  (h : S w.drew → wpAnyKC F n P ops Q S L ops.size (Array.replicate ops.size false) a w.drew) : (Code.region id ops true).wpIn F n P Q a w :=
 wpIn_region_any hm (wpAnyIn_of_K _ _ _ _ (h hS (closed_start _)))
theorem wpIn_region_heldL {id : Nat} {a : Act} {w : World} (S : World → Prop) (hm : P.follows .mixedOrders = true) (hS : S w.drew)
  (h : S w.drew → wpAnyHIn F n P ops Q S ops.size (Array.replicate ops.size false) a w.drew) : (Code.region id ops true).wpIn F n P Q a w :=
 wpIn_region_any hm (wpAnyIn_of_heldIn _ _ _ _ (h hS))
end
end Go
/- Walks: a disk: the iterator over the records of a half. -/
namespace Go.Proofs.YtoggmplkbiidhaaGreatDoor
section
open Go.RowKit Go.Shelf
attribute [local go_sem] Oper.semAt_some
/-- The record at a place, and the place behind it. -/
def nextR (h : List UInt8) (g k : Nat) : Option (Nat × List UInt8) :=
 if k + 13 ≤ h.length ∧ h.getD k 0 = 1 ∧ numL ((h.drop (k + 1)).take 4) ≤ 65535 ∧ k + 13 + numL ((h.drop (k + 1)).take 4) ≤ h.length ∧
   (h.drop (k + 1)).take (12 + numL ((h.drop (k + 1)).take 4)) = bodyL g k ((h.drop (k + 5)).take (numL ((h.drop (k + 1)).take 4)))
  then some (k + 13 + numL ((h.drop (k + 1)).take 4), (h.drop (k + 5)).take (numL ((h.drop (k + 1)).take 4))) else none
def recF (h : List UInt8) (g : Nat) : Nat → Nat → List (Nat × List UInt8)
 | 0, _ => []
 | f + 1, k => match nextR h g k with | none => [] | some (e, d) => (e, d) :: recF h g f e
def recs (h : List UInt8) (g : Nat) : List (Nat × List UInt8) := recF h g h.length 17
theorem recF_none {h : List UInt8} {g k : Nat} (hn : nextR h g k = none) (f : Nat) : recF h g f k = [] := by
 cases f with
 | zero => rfl
 | succ f => unfold recF; rw [hn]
theorem recF_some {h : List UInt8} {g k e : Nat} {d : List UInt8} (hn : nextR h g k = some (e, d)) (f : Nat) : recF h g (f + 1) k = (e, d) :: recF h g f e := by
 rw [recF, hn]
def encR (x : Nat × List UInt8) : Array Value := #[.int .i64 (x.1 : Int), .string (bytesOf x.2)]
def threeB (b c1 c2 k : Nat) : Prop := k = b ∨ k = c1 ∨ k = c2
theorem records1 (n : Nat) (hn : 1 ≤ n) (l b c1 c2 : Nat) (h : List UInt8) (g : Nat) (hg : g < 18446744073709551616) (h64 : 64 ≤ h.length) (hmx : h.length ≤ 262144) (J Jx : List (Nat × List UInt8) → World → Prop)
  (hJ : ∀ pre A A', J pre A → Below A.heap.size A A' → J pre A') (hJx : ∀ pre A A', Jx pre A → Below A.heap.size A A' → Jx pre A')
  (hY : ∀ pre x W, J pre W → pre.length < h.length → YieldAt Fence.wide (n - 1) Tryz.prog l (encR x) W fun e W' =>
   (e = .returned (.bool true) ∧ J (pre ++ [x]) W' ∧ KeepP (threeB b c1 c2) W W') ∨ (e = .returned (.bool false) ∧ Jx (pre ++ [x]) W'))
  (W : World) (hh : HalfAt W b h) (h1 : W.cell? ⟨c1, 0, none⟩ = some (.slice (some ⟨b, 0, none⟩) h.length h.length)) (h2 : W.cell? ⟨c2, 0, none⟩ = some (.int .u64 (g : Int))) (h0 : J [] W) :
  CallsIn Fence.wide n Tryz.prog 116 #[.func (.yield l) #[] #[], .pointer (some ⟨c1, 0, none⟩), .pointer (some ⟨c2, 0, none⟩)] W fun e W' => (∃ v, e = .returned v) ∧
   ((∃ ys, ys = recs h g ∧ J ys W') ∨ (∃ pre, Jx pre W')) := by
 have hro : Fence.wide.round = none := rfl
 obtain ⟨m, hm⟩ : ∃ m, m = h.length := ⟨_, rfl⟩
 rw [← hm] at h64 hmx h1 hY
 have HM := Lib.hid hm
 have HJ := Lib.hid hJ
 have HJX := Lib.hid hJx
 have HY := Lib.hid hY
 have HH := Lib.hid hh
 have HC1 := Lib.hid h1
 have HC2 := Lib.hid h2
 have HRC : Hid (recs h g = recF h g m 17) := by show _ = _; rw [hm]; rfl
 clear hm hJ hJx hY hh h1 h2
 refine callsIn_of_wp Tryz.func116 rfl trivial ?_ rfl
 simp only [Tryz.ntmps116, List.size_toArray, List.length_cons, List.length_nil, Nat.reduceAdd, Nat.reduceSub, Array.replicate_succ, Array.replicate_zero, List.push_toArray, List.append_toArray, List.nil_append, List.cons_append]
 gi_wp2_with fail
 gi_loopw [4] (fun v wr => ∃ (k f : Nat) (pre : List (Nat × List UInt8)), v = .int .i64 (k : Int) ∧ 17 + 13 * pre.length ≤ k ∧ f + pre.length = m ∧ k ≤ 17 + m ∧ Hid (recs h g = pre ++ recF h g f k) ∧ Hid (J pre wr) ∧ Hid (KeepP (threeB b c1 c2) W wr)) (fun v _ => 17 + m - (intOf v).toNat)
 case atStart => exact ⟨17, m, [], rfl, by simp, by simp, by omega, HRC.out, h0, KeepP.refl W⟩
 case round =>
  obtain ⟨k, f, pre, rfl, hk1, hf, hk2, hrec, hJs, hkp⟩ := hrel
  have hhw : HalfAt wr b h := by
   obtain ⟨t, ht⟩ := HH.out
   exact ⟨t, (hkp.out b (Or.inl rfl)).trans ht⟩
  have hc1 : wr.cell? ⟨c1, 0, none⟩ = some (.slice (some ⟨b, 0, none⟩) m m) := (hkp.out.cell (Or.inr (Or.inl rfl))).trans HC1.out
  have hc2 : wr.cell? ⟨c2, 0, none⟩ = some (.int .u64 (g : Int)) := (hkp.out.cell (Or.inr (Or.inr rfl))).trans HC2.out
  have HHW := Lib.hid hhw
  clear hhw
  by_cases a1 : k + 13 ≤ m
  case neg =>
   have hnx : nextR h g k = none := by unfold nextR; rw [if_neg]; rintro ⟨q, -⟩; rw [← HM.out] at q; exact a1 q
   have t1 : ¬ ((k : Int) + 13 ≤ (m : Int)) := by omega
   have HJR : Hid (J (recs h g) wr) := by
    have e : pre = recs h g := by rw [hrec.out, recF_none hnx, List.append_nil]
    rw [← e]; exact hJs.out
   clear hnx a1
   gi_wp2
   go_end0
   first | exact ⟨⟨_, rfl⟩, .inl ⟨_, rfl, HJR.out⟩⟩ | exact ⟨⟨_, rfl⟩, .inl HJR.out⟩
  have t1 : (k : Int) + 13 ≤ (m : Int) := by omega
  have hkm : k < m := by omega
  obtain ⟨x, hx⟩ : ∃ x, h[k]? = some x := ⟨h[k]'(by rw [← HM.out]; exact hkm), List.getElem?_eq_getElem _⟩
  have hcx := HHW.out.cell k x hx
  have hgx : h.getD k 0 = x := by rw [List.getD_eq_getElem?_getD, hx]; rfl
  have HGX := Lib.hid hgx
  clear hx hgx
  by_cases a2 : x = 1
  case neg =>
   have hnx : nextR h g k = none := by unfold nextR; rw [if_neg]; rintro ⟨-, q, -⟩; rw [HGX.out] at q; exact a2 q
   have t2 : ((x.toNat : Int) == 1) = false := by
    rw [beq_eq_false_iff_ne]
    intro h
    exact a2 (UInt8.toNat_inj.1 (by show x.toNat = 1; omega))
   have HJR : Hid (J (recs h g) wr) := by
    have e : pre = recs h g := by rw [hrec.out, recF_none hnx, List.append_nil]
    rw [← e]; exact hJs.out
   clear hnx a1 a2
   gi_wp2
   go_end0
   first | exact ⟨⟨_, rfl⟩, .inl ⟨_, rfl, HJR.out⟩⟩ | exact ⟨⟨_, rfl⟩, .inl HJR.out⟩
  have t2 : ((x.toNat : Int) == 1) = true := by rw [a2]; rfl
  have hl4 : ((h.drop (k + 1)).take 4).length = 4 := by rw [List.length_take, List.length_drop, ← HM.out]; omega
  obtain ⟨v, hv⟩ : ∃ v, v = numL ((h.drop (k + 1)).take 4) := ⟨_, rfl⟩
  have hvl := numL_lt ((h.drop (k + 1)).take 4)
  rw [hl4, ← hv] at hvl
  have h256 : (256 : Nat) ^ 4 = 4294967296 := by simp
  rw [h256] at hvl
  have HN := number_any b (k + 1) (m - (k + 1)) h ((h.drop (k + 1)).take 4) wr HHW.out (by rw [hl4]) (by rw [hl4]; omega)
  rw [hl4, ← hv] at HN
  have HNN := Lib.hid HN
  have HV := Lib.hid hv
  clear hl4 hv h256 HN
  have i1 : (k : Int) + 5 ≤ (m : Int) := by omega
  have i2 : k + 5 ≤ m := by omega
  gi_wp2_with fail
  refine ⟨trivial, (callsIn_wide.2 HNN.out).mono ?_⟩
  rintro e w5 ⟨rfl, rfl⟩
  have hw1 : IntKind.i64.wrap (v : Int) = (v : Int) := IntWalk.i64_in _ ⟨by omega, by omega⟩
  by_cases a3 : v ≤ 65535
  case neg =>
   have hnx : nextR h g k = none := by unfold nextR; rw [if_neg]; rintro ⟨-, -, q, -⟩; rw [← HV.out] at q; exact a3 q
   have t3 : (65535 : Int) < (v : Int) := by omega
   have HJR : Hid (J (recs h g) wr) := by
    have e : pre = recs h g := by rw [hrec.out, recF_none hnx, List.append_nil]
    rw [← e]; exact hJs.out
   clear hnx a1 a2 a3
   gi_wp2
   refine bodyPost_ret (results_none rfl _ _ _) rfl ?_
   first | exact ⟨⟨_, rfl⟩, .inl ⟨_, rfl, HJR.out⟩⟩ | exact ⟨⟨_, rfl⟩, .inl HJR.out⟩
  have t3 : ¬ (65535 : Int) < (v : Int) := by omega
  by_cases a4 : k + 13 + v ≤ m
  case neg =>
   have hnx : nextR h g k = none := by unfold nextR; rw [if_neg]; rintro ⟨-, -, -, q, -⟩; rw [← HV.out, ← HM.out] at q; exact a4 q
   have t4 : (m : Int) < (k : Int) + 13 + (v : Int) := by omega
   have HJR : Hid (J (recs h g) wr) := by
    have e : pre = recs h g := by rw [hrec.out, recF_none hnx, List.append_nil]
    rw [← e]; exact hJs.out
   clear hnx a1 a2 a3 a4
   gi_wp2
   refine bodyPost_ret (results_none rfl _ _ _) rfl ?_
   first | exact ⟨⟨_, rfl⟩, .inl ⟨_, rfl, HJR.out⟩⟩ | exact ⟨⟨_, rfl⟩, .inl HJR.out⟩
  have t4 : ¬ (m : Int) < (k : Int) + 13 + (v : Int) := by omega
  obtain ⟨data, hdata⟩ : ∃ d, d = (h.drop (k + 5)).take v := ⟨_, rfl⟩
  have hdl : data.length = v := by rw [hdata, List.length_take, List.length_drop, ← HM.out]; omega
  have ht5 : ∀ c, (convert 54 9 (.slice (some ⟨b, k + 5, none⟩) v c)).run Tryz.prog wr = .ok (.string (bytesOf data)) wr := fun c => by
   rw [hdata]; exact HHW.out.text (k + 5) v (by rw [← HM.out]; omega) c
  obtain ⟨tail, htail⟩ : ∃ d, d = (h.drop (k + 1)).take (12 + v) := ⟨_, rfl⟩
  obtain ⟨K1, hK1⟩ : ∃ K1, K1 = k + 1 := ⟨_, rfl⟩
  have HT1 : Hid (∀ W, HalfAt W b h → ∀ c, (convert 54 9 (.slice (some ⟨b, K1, none⟩) (12 + v) c)).run Tryz.prog W = .ok (.string (bytesOf tail)) W) := fun W hW c => by
   rw [htail, hK1]; exact hW.text (k + 1) (12 + v) (by rw [← HM.out]; omega) c
  have HD := Lib.hid hdata
  have HTL := Lib.hid htail
  have HDL := Lib.hid hdl
  clear hdata htail hdl
  obtain ⟨E, hE⟩ : ∃ E, E = k + 13 + v := ⟨_, rfl⟩
  have hEi : (k : Int) + 13 + (v : Int) = (E : Int) := by omega
  have hE8 : (E : Int) - 8 = ((k + 5 + v : Nat) : Int) := by omega
  have e1 : k + 5 + v - (k + 5) = v := by omega
  have e2 : E - K1 = 12 + v := by omega
  have hwk : IntKind.i64.wrap ((k : Int) + 1) = (K1 : Int) := by rw [IntWalk.i64_in _ ⟨by omega, by omega⟩]; omega
  have n5 : ¬ m = k + 5 := by omega
  have n1 : ¬ m = K1 := by omega
  have i3 : k + 5 ≤ k + 5 + v := by omega
  have i4 : k + 5 + v ≤ m := by omega
  have i5 : K1 ≤ E := by omega
  have i6 : E ≤ m := by omega
  have HE := Lib.hid hE
  clear hE hK1
  gi_wp2_with fail
  by_cases a5 : tail = bodyL g k data
  case neg =>
   have hcv6 := HT1.out wr.drew HHW.out
   have l1 := HHW.out.lt
   refine wpIn_region_heldL (fun w' => w'.cell? ⟨c1, 0, none⟩ = some (.slice (some ⟨b, 0, none⟩) m m) ∧ w'.cell? ⟨c2, 0, none⟩ = some (.int .u64 (g : Int)) ∧ ∀ c, (convert 54 9 (.slice (some ⟨b, K1, none⟩) (12 + v) c)).run Tryz.prog w' = .ok (.string (bytesOf tail)) w') (by kernel_rfl) ⟨hc1, hc2, hcv6⟩ (fun hS => ?_)
   refine wpAnyHIn_takeL 0 (v := ?_) hro (by kernel_rfl) rfl (by kernel_rfl) (by kernel_rfl) (fun _ _ _ h => h) (Or.inl ⟨by rfl, ?_⟩) (fun _ => rfl) (by assumption) ?_
   rotate_left
   ·(intro wq hSq; (try dsimp only at hSq); go_simp; try with_reducible rfl)
   try simp only [q0P, q0Q, q0R, q0S]
   refine wpAnyHIn_takeL 1 (v := ?_) hro (by kernel_rfl) rfl (by kernel_rfl) (by kernel_rfl) (fun _ _ _ h => h) (Or.inl ⟨by rfl, ?_⟩) (fun _ => rfl) (by assumption) ?_
   rotate_left
   ·(intro wq hSq; (try dsimp only at hSq); go_simp; try with_reducible rfl)
   try simp only [q0P, q0Q, q0R, q0S]
   refine wpAnyHIn_takeL 2 (v := ?_) hro (by kernel_rfl) rfl (by kernel_rfl) (by kernel_rfl) (fun _ _ _ h => h) (Or.inl ⟨by rfl, ?_⟩) (fun _ => rfl) (by assumption) ?_
   rotate_left
   ·(intro wq hSq; (try dsimp only at hSq); go_simp; try with_reducible rfl)
   try simp only [q0P, q0Q, q0R, q0S]
   refine wpAnyHIn_takeL 3 (v := ?_) hro (by kernel_rfl) rfl (by kernel_rfl) (by kernel_rfl) (fun _ _ _ h => h) (Or.inl ⟨by rfl, ?_⟩) (fun _ => rfl) (by assumption) ?_
   rotate_left
   ·(intro wq hSq; (try dsimp only at hSq); go_simp; try with_reducible rfl)
   try simp only [q0P, q0Q, q0R, q0S]
   refine wpAnyHIn_takeL 4 (v := ?_) hro (by kernel_rfl) rfl (by kernel_rfl) (by kernel_rfl) (fun _ _ _ h => h) (Or.inl ⟨by rfl, ?_⟩) (fun _ => rfl) (by assumption) ?_
   rotate_left
   ·(intro wq hSq; (try dsimp only at hSq); go_simp; try with_reducible rfl)
   try simp only [q0P, q0Q, q0R, q0S]
   refine wpAnyHIn_takeL 5 (v := ?_) hro (by kernel_rfl) rfl (by kernel_rfl) (by kernel_rfl) (fun _ _ _ h => h) (Or.inl ⟨by rfl, ?_⟩) (fun _ => rfl) (by assumption) ?_
   rotate_left
   ·(intro wq hSq; (try dsimp only at hSq); go_simp; try with_reducible rfl)
   try simp only [q0P, q0Q, q0R, q0S]
   refine wpAnyHIn_takeL 6 (v := ?_) hro (by kernel_rfl) rfl (by kernel_rfl) (by kernel_rfl) (fun _ _ _ h => h) (Or.inl ⟨by rfl, ?_⟩) (fun _ => rfl) (by assumption) ?_
   rotate_left
   ·(intro wq hSq; (try dsimp only at hSq); go_simp; try with_reducible rfl)
   try simp only [q0P, q0Q, q0R, q0S]
   refine wpAnyHIn_takeL 7 (v := ?_) hro (by kernel_rfl) rfl (by kernel_rfl) (by kernel_rfl) (fun _ _ _ h => h) (Or.inl ⟨by rfl, ?_⟩) (fun _ => rfl) (by assumption) ?_
   rotate_left
   ·(intro wq hSq; (try dsimp only at hSq); go_simp; try with_reducible rfl)
   try simp only [q0P, q0Q, q0R, q0S]
   refine wpAnyHIn_takeL 8 (v := ?_) hro (by kernel_rfl) rfl (by kernel_rfl) (by kernel_rfl) (fun _ _ _ h => h) (Or.inl ⟨by rfl, ?_⟩) (fun _ => rfl) (by assumption) ?_
   rotate_left
   ·(intro wq hSq; (try dsimp only at hSq); go_simp; try with_reducible rfl)
   try simp only [q0P, q0Q, q0R, q0S]
   refine wpAnyHIn_stepL 9 (by kernel_rfl) rfl (fun K hK => ?_)
   go_simp
   refine ⟨trivial, (callsIn_wide.2 (body_any g k data hg (by omega) (by have := HDL.out; omega) wr.drew)).mono ?_⟩
   rintro e w6 ⟨rfl, hb6d⟩
   have hb6 : Below wr.heap.size wr w6 := ((Below.refl wr.heap.size wr).drew).trans hb6d
   have hh6 := HHW.out.below hb6 l1
   have hj1 : w6.cell? ⟨c1, 0, none⟩ = some (.slice (some ⟨b, 0, none⟩) m m) := (hb6.cell (p := ⟨c1, 0, none⟩) (World.block_lt_of_cell? wr ⟨c1, 0, none⟩ hc1)).trans hc1
   have hj2 : w6.cell? ⟨c2, 0, none⟩ = some (.int .u64 (g : Int)) := (hb6.cell (p := ⟨c2, 0, none⟩) (World.block_lt_of_cell? wr ⟨c2, 0, none⟩ hc2)).trans hc2
   have hS6 : (fun w' : World => w'.cell? ⟨c1, 0, none⟩ = some (.slice (some ⟨b, 0, none⟩) m m) ∧ w'.cell? ⟨c2, 0, none⟩ = some (.int .u64 (g : Int)) ∧ ∀ c, (convert 54 9 (.slice (some ⟨b, K1, none⟩) (12 + v) c)).run Tryz.prog w' = .ok (.string (bytesOf tail)) w') w6 := ⟨hj1, hj2, HT1.out w6 hh6⟩
   refine hK.out _ _ hS6 (fun _ => ?_)
   have HK6 : Hid (KeepP (threeB b c1 c2) W w6) := hkp.out.trans (KeepP.below hb6 (fun z hz => by
    rcases hz with rfl | rfl | rfl
    ·exact l1
    ·exact World.block_lt_of_cell? wr ⟨_, 0, none⟩ hc1
    ·exact World.block_lt_of_cell? wr ⟨_, 0, none⟩ hc2))
   have HJ6 : Hid (J pre w6) := HJ.out _ _ _ hJs.out hb6
   clear hK K hS
   try simp only [q0P, q0Q, q0R, q0S]
   have t5 := str_bne (bytesOf tail) (bytesOf (bodyL g k data)) (fun h => a5 (bytesOf_inj h))
   have hnx : nextR h g k = none := by unfold nextR; rw [if_neg]; rintro ⟨-, -, -, -, q⟩; rw [← HV.out, ← HD.out, ← HTL.out] at q; exact a5 q
   have HJR : Hid (J (recs h g) w6) := by
    have e : pre = recs h g := by rw [hrec.out, recF_none hnx, List.append_nil]
    rw [← e]; exact HJ6.out
   clear hnx a5
   refine wpAnyHIn_takeL 10 (v := ?_) hro (by kernel_rfl) rfl (by kernel_rfl) (by kernel_rfl) (fun _ _ _ h => h) (Or.inl ⟨by rfl, ?_⟩) (fun _ => rfl) (by assumption) ?_
   rotate_left
   ·(intro wq hSq; (try dsimp only at hSq); go_simp; try with_reducible rfl)
   try simp only [q0P, q0Q, q0R, q0S]
   refine wpAnyHIn_takeL 11 (v := ?_) hro (by kernel_rfl) rfl (by kernel_rfl) (by kernel_rfl) (fun _ _ _ h => h) (Or.inl ⟨by rfl, ?_⟩) (fun _ => rfl) (by assumption) ?_
   rotate_left
   ·(intro wq hSq; (try dsimp only at hSq); go_simp; try with_reducible rfl)
   try simp only [q0P, q0Q, q0R, q0S]
   refine wpAnyHIn_takeL 12 (v := undef) hro (by kernel_rfl) rfl (by kernel_rfl) (by kernel_rfl) (fun _ _ _ h => h) (Or.inr ⟨by rfl, rfl⟩) (fun _ => rfl) (by assumption) ?_
   try simp only [q0P, q0Q, q0R, q0S]
   refine wpAnyHIn_takeL 13 (v := undef) hro (by kernel_rfl) rfl (by kernel_rfl) (by kernel_rfl) (fun _ _ _ h => h) (Or.inr ⟨by rfl, rfl⟩) (fun _ => rfl) (by assumption) ?_
   try simp only [q0P, q0Q, q0R, q0S]
   refine wpAnyHIn_takeL 14 (v := undef) hro (by kernel_rfl) rfl (by kernel_rfl) (by kernel_rfl) (fun _ _ _ h => h) (Or.inr ⟨by rfl, rfl⟩) (fun _ => rfl) (by assumption) ?_
   try simp only [q0P, q0Q, q0R, q0S]
   refine wpAnyHIn_takeL 15 (v := undef) hro (by kernel_rfl) rfl (by kernel_rfl) (by kernel_rfl) (fun _ _ _ h => h) (Or.inr ⟨by rfl, rfl⟩) (fun _ => rfl) (by assumption) ?_
   try simp only [q0P, q0Q, q0R, q0S]
   refine wpAnyHIn_takeL 16 (v := undef) hro (by kernel_rfl) rfl (by kernel_rfl) (by kernel_rfl) (fun _ _ _ h => h) (Or.inr ⟨by rfl, rfl⟩) (fun _ => rfl) (by assumption) ?_
   try simp only [q0P, q0Q, q0R, q0S]
   refine wpAnyHIn_takeL 17 (v := ?_) hro (by kernel_rfl) rfl (by kernel_rfl) (by kernel_rfl) (fun _ _ _ h => h) (Or.inl ⟨by rfl, ?_⟩) (fun _ => rfl) (by assumption) ?_
   rotate_left
   ·(intro wq hSq; (try dsimp only at hSq); go_simp; try with_reducible rfl)
   try simp only [q0P, q0Q, q0R, q0S]
   refine wpAnyHIn_end (by kernel_rfl) ?_
   gi_wp2
   refine bodyPost_ret (results_none rfl _ _ _) rfl ?_
   first | exact ⟨⟨_, rfl⟩, .inl ⟨_, rfl, HJR.out⟩⟩ | exact ⟨⟨_, rfl⟩, .inl HJR.out⟩
  have hcv6 := HT1.out wr.drew HHW.out
  have l1 := HHW.out.lt
  refine wpIn_region_K (fun w' => w'.cell? ⟨c1, 0, none⟩ = some (.slice (some ⟨b, 0, none⟩) m m) ∧ w'.cell? ⟨c2, 0, none⟩ = some (.int .u64 (g : Int)) ∧ ∀ c, (convert 54 9 (.slice (some ⟨b, K1, none⟩) (12 + v) c)).run Tryz.prog w' = .ok (.string (bytesOf tail)) w') 15 (by kernel_rfl) ⟨hc1, hc2, hcv6⟩ (fun hS => ?_)
  refine wpAnyKC_takeL 0 20 (v := ?_) hro (by kernel_rfl) (by kernel_rfl) (by kernel_rfl) rfl (by kernel_rfl) (by kernel_rfl) (fun _ _ _ h => h) (Or.inl ⟨by rfl, ?_⟩) (fun _ => rfl) (by assumption) ?_
  rotate_left
  ·(intro wq hSq; (try dsimp only at hSq); go_simp; try with_reducible rfl)
  try simp only [q0P, q0Q, q0R, q0S]
  refine wpAnyKC_takeL 1 20 (v := ?_) hro (by kernel_rfl) (by kernel_rfl) (by kernel_rfl) rfl (by kernel_rfl) (by kernel_rfl) (fun _ _ _ h => h) (Or.inl ⟨by rfl, ?_⟩) (fun _ => rfl) (by assumption) ?_
  rotate_left
  ·(intro wq hSq; (try dsimp only at hSq); go_simp; try with_reducible rfl)
  try simp only [q0P, q0Q, q0R, q0S]
  refine wpAnyKC_takeL 2 20 (v := ?_) hro (by kernel_rfl) (by kernel_rfl) (by kernel_rfl) rfl (by kernel_rfl) (by kernel_rfl) (fun _ _ _ h => h) (Or.inl ⟨by rfl, ?_⟩) (fun _ => rfl) (by assumption) ?_
  rotate_left
  ·(intro wq hSq; (try dsimp only at hSq); go_simp; try with_reducible rfl)
  try simp only [q0P, q0Q, q0R, q0S]
  refine wpAnyKC_takeL 3 20 (v := ?_) hro (by kernel_rfl) (by kernel_rfl) (by kernel_rfl) rfl (by kernel_rfl) (by kernel_rfl) (fun _ _ _ h => h) (Or.inl ⟨by rfl, ?_⟩) (fun _ => rfl) (by assumption) ?_
  rotate_left
  ·(intro wq hSq; (try dsimp only at hSq); go_simp; try with_reducible rfl)
  try simp only [q0P, q0Q, q0R, q0S]
  refine wpAnyKC_takeL 4 20 (v := ?_) hro (by kernel_rfl) (by kernel_rfl) (by kernel_rfl) rfl (by kernel_rfl) (by kernel_rfl) (fun _ _ _ h => h) (Or.inl ⟨by rfl, ?_⟩) (fun _ => rfl) (by assumption) ?_
  rotate_left
  ·(intro wq hSq; (try dsimp only at hSq); go_simp; try with_reducible rfl)
  try simp only [q0P, q0Q, q0R, q0S]
  refine wpAnyKC_takeL 5 20 (v := ?_) hro (by kernel_rfl) (by kernel_rfl) (by kernel_rfl) rfl (by kernel_rfl) (by kernel_rfl) (fun _ _ _ h => h) (Or.inl ⟨by rfl, ?_⟩) (fun _ => rfl) (by assumption) ?_
  rotate_left
  ·(intro wq hSq; (try dsimp only at hSq); go_simp; try with_reducible rfl)
  try simp only [q0P, q0Q, q0R, q0S]
  refine wpAnyKC_takeL 6 20 (v := ?_) hro (by kernel_rfl) (by kernel_rfl) (by kernel_rfl) rfl (by kernel_rfl) (by kernel_rfl) (fun _ _ _ h => h) (Or.inl ⟨by rfl, ?_⟩) (fun _ => rfl) (by assumption) ?_
  rotate_left
  ·(intro wq hSq; (try dsimp only at hSq); go_simp; try with_reducible rfl)
  try simp only [q0P, q0Q, q0R, q0S]
  refine wpAnyKC_takeL 7 20 (v := ?_) hro (by kernel_rfl) (by kernel_rfl) (by kernel_rfl) rfl (by kernel_rfl) (by kernel_rfl) (fun _ _ _ h => h) (Or.inl ⟨by rfl, ?_⟩) (fun _ => rfl) (by assumption) ?_
  rotate_left
  ·(intro wq hSq; (try dsimp only at hSq); go_simp; try with_reducible rfl)
  try simp only [q0P, q0Q, q0R, q0S]
  refine wpAnyKC_takeL 8 20 (v := ?_) hro (by kernel_rfl) (by kernel_rfl) (by kernel_rfl) rfl (by kernel_rfl) (by kernel_rfl) (fun _ _ _ h => h) (Or.inl ⟨by rfl, ?_⟩) (fun _ => rfl) (by assumption) ?_
  rotate_left
  ·(intro wq hSq; (try dsimp only at hSq); go_simp; try with_reducible rfl)
  try simp only [q0P, q0Q, q0R, q0S]
  refine wpAnyKC_stepL 9 (by kernel_rfl) rfl (fun K hK => ?_)
  go_simp
  refine ⟨trivial, (callsIn_wide.2 (body_any g k data hg (by omega) (by have := HDL.out; omega) wr.drew)).mono ?_⟩
  rintro e w6 ⟨rfl, hb6d⟩
  have hb6 : Below wr.heap.size wr w6 := ((Below.refl wr.heap.size wr).drew).trans hb6d
  have hh6 := HHW.out.below hb6 l1
  have hj1 : w6.cell? ⟨c1, 0, none⟩ = some (.slice (some ⟨b, 0, none⟩) m m) := (hb6.cell (p := ⟨c1, 0, none⟩) (World.block_lt_of_cell? wr ⟨c1, 0, none⟩ hc1)).trans hc1
  have hj2 : w6.cell? ⟨c2, 0, none⟩ = some (.int .u64 (g : Int)) := (hb6.cell (p := ⟨c2, 0, none⟩) (World.block_lt_of_cell? wr ⟨c2, 0, none⟩ hc2)).trans hc2
  have hS6 : (fun w' : World => w'.cell? ⟨c1, 0, none⟩ = some (.slice (some ⟨b, 0, none⟩) m m) ∧ w'.cell? ⟨c2, 0, none⟩ = some (.int .u64 (g : Int)) ∧ ∀ c, (convert 54 9 (.slice (some ⟨b, K1, none⟩) (12 + v) c)).run Tryz.prog w' = .ok (.string (bytesOf tail)) w') w6 := ⟨hj1, hj2, HT1.out w6 hh6⟩
  refine hK.out _ _ (fun _ => hS6) ?_
  have HK6 : Hid (KeepP (threeB b c1 c2) W w6) := hkp.out.trans (KeepP.below hb6 (fun z hz => by
   rcases hz with rfl | rfl | rfl
   ·exact l1
   ·exact World.block_lt_of_cell? wr ⟨_, 0, none⟩ hc1
   ·exact World.block_lt_of_cell? wr ⟨_, 0, none⟩ hc2))
  have HJ6 : Hid (J pre w6) := HJ.out _ _ _ hJs.out hb6
  clear hK K hS
  try simp only [q0P, q0Q, q0R, q0S]
  have t5 := str_beq (bytesOf tail) (bytesOf (bodyL g k data)) (by rw [a5])
  have hnx : nextR h g k = some (E, data) := by
   unfold nextR
   rw [← HM.out, ← HV.out, ← HD.out, ← HTL.out, HE.out, if_pos ⟨a1, by rw [HGX.out]; exact a2, a3, a4, a5⟩]
  have HNX := Lib.hid hnx
  obtain ⟨f', rfl⟩ : ∃ f', f = f' + 1 := ⟨f - 1, by omega⟩
  have HR2 : Hid (recs h g = (pre ++ [(E, data)]) ++ recF h g f' E) := by show _ = _; rw [hrec.out, recF_some hnx]; simp
  clear hnx a5
  obtain ⟨fn, tmps, assign, body, hy, hR⟩ := HY.out pre (E, data) w6 HJ6.out (by omega)
  have hy' : (Instr.yield l #[.int .i64 (E : Int), .string (bytesOf data)]).run Tryz.prog w6 = .ok (.round l fn tmps assign body) w6 := hy
  clear hy
  refine wpAnyKC_takeL 10 20 (v := ?_) hro (by kernel_rfl) (by kernel_rfl) (by kernel_rfl) rfl (by kernel_rfl) (by kernel_rfl) (fun _ _ _ h => h) (Or.inl ⟨by rfl, ?_⟩) (fun _ => rfl) (by assumption) ?_
  rotate_left
  ·(intro wq hSq; (try dsimp only at hSq); go_simp; try with_reducible rfl)
  try simp only [q0P, q0Q, q0R, q0S]
  refine wpAnyKC_takeL 11 20 (v := ?_) hro (by kernel_rfl) (by kernel_rfl) (by kernel_rfl) rfl (by kernel_rfl) (by kernel_rfl) (fun _ _ _ h => h) (Or.inl ⟨by rfl, ?_⟩) (fun _ => rfl) (by assumption) ?_
  rotate_left
  ·(intro wq hSq; (try dsimp only at hSq); go_simp; try with_reducible rfl)
  try simp only [q0P, q0Q, q0R, q0S]
  refine wpAnyKC_takeL 12 20 (v := ?_) hro (by kernel_rfl) (by kernel_rfl) (by kernel_rfl) rfl (by kernel_rfl) (by kernel_rfl) (fun _ _ _ h => h) (Or.inl ⟨by rfl, ?_⟩) (fun _ => rfl) (by assumption) ?_
  rotate_left
  ·(intro wq hSq; (try dsimp only at hSq); go_simp; try with_reducible rfl)
  try simp only [q0P, q0Q, q0R, q0S]
  refine wpAnyKC_takeL 13 20 (v := ?_) hro (by kernel_rfl) (by kernel_rfl) (by kernel_rfl) rfl (by kernel_rfl) (by kernel_rfl) (fun _ _ _ h => h) (Or.inl ⟨by rfl, ?_⟩) (fun _ => rfl) (by assumption) ?_
  rotate_left
  ·(intro wq hSq; (try dsimp only at hSq); go_simp; try with_reducible rfl)
  try simp only [q0P, q0Q, q0R, q0S]
  refine wpAnyKC_takeL 14 20 (v := ?_) hro (by kernel_rfl) (by kernel_rfl) (by kernel_rfl) rfl (by kernel_rfl) (by kernel_rfl) (fun _ _ _ h => h) (Or.inl ⟨by rfl, ?_⟩) (fun _ => rfl) (by assumption) ?_
  rotate_left
  ·(intro wq hSq; (try dsimp only at hSq); go_simp; try with_reducible rfl)
  try simp only [q0P, q0Q, q0R, q0S]
  refine wpAnyKC_stepL 15 (by kernel_rfl) rfl (fun K hK => ?_)
  go_simp
  refine hR.mono ?_
  rintro e W3 (⟨rfl, hJ3, hk3⟩ | ⟨rfl, hJx3⟩)
  ·refine hK.out _ _ (fun h => by cases h) ?_
   have HK3 : Hid (KeepP (threeB b c1 c2) W W3) := HK6.out.trans hk3
   have HJ3 : Hid (J (pre ++ [(E, data)]) W3) := hJ3
   clear hK K hS6 hJ3 hk3
   try simp only [q0P, q0Q, q0R, q0S]
   refine wpAnyKC_stepL 16 (by kernel_rfl) rfl (fun K hK => ?_)
   go_simp
   refine hK.out _ _ (fun h => by cases h) ?_
   clear hK K
   try simp only [q0P, q0Q, q0R, q0S]
   refine wpAnyKC_stepL 17 (by kernel_rfl) rfl (fun K hK => ?_)
   go_simp
   refine hK.out _ _ (fun h => by cases h) ?_
   clear hK K
   try simp only [q0P, q0Q, q0R, q0S]
   refine wpAnyKC_end (by kernel_rfl) ?_
   gi_wp2
   go_roundw
   case rel =>
    have hEE := HE.out
    refine ⟨E, f', pre ++ [(E, data)], rfl, ?_, ?_, by omega, HR2.out, HJ3.out, HK3.out⟩
    ·rw [List.length_append, List.length_singleton]; omega
    ·rw [List.length_append, List.length_singleton]; omega
   case measure =>
    have hEE := HE.out
    simp [intOf]; omega
  ·refine hK.out _ _ (fun h => by cases h) ?_
   have HJX3 : Hid (Jx (pre ++ [(E, data)]) W3) := hJx3
   clear hK K hS6 hJx3
   try simp only [q0P, q0Q, q0R, q0S]
   refine wpAnyKC_stepL 16 (by kernel_rfl) rfl (fun K hK => ?_)
   go_simp
   refine hK.out _ _ (fun h => by cases h) ?_
   clear hK K
   try simp only [q0P, q0Q, q0R, q0S]
   refine wpAnyKC_stepL 17 (by kernel_rfl) rfl (fun K hK => ?_)
   go_simp
   refine hK.out _ _ (fun h => by cases h) ?_
   clear hK K
   try simp only [q0P, q0Q, q0R, q0S]
   refine wpAnyKC_end (by kernel_rfl) ?_
   gi_wp2
   refine bodyPost_ret (results_none rfl _ _ _) rfl ?_
   exact ⟨⟨_, rfl⟩, .inr ⟨_, HJX3.out⟩⟩
end
/- Walks: a disk: the end of the records. -/
section
open Go.RowKit Go.Shelf
attribute [local go_sem] Oper.semAt_some
theorem below_grown_none {A A' : World} (h : Below A.heap.size A A') : A.grownBy A' none := ⟨h.os, h.tape, h.output, h.size, fun k hk _ => h.block k hk⟩
theorem records_in (n b m g : Nat) (w : World) :
  CallsIn Fence.wide n Tryz.prog 95 #[.slice (some ⟨b, 0, none⟩) m m, .int .u64 (g : Int)] w fun e w' => e = .returned (.func (.func 116) #[] #[.pointer (some ⟨w.heap.size, 0, none⟩), .pointer (some ⟨w.heap.size + 1, 0, none⟩)]) ∧
   w' = (w.alloc (.cells #[.slice (some ⟨b, 0, none⟩) m m] 54)).alloc (.cells #[.int .u64 (g : Int)] 59) := by
 refine callsIn_of_wp Tryz.func95 rfl trivial ?_ rfl
 simp only [Tryz.ntmps95, List.size_toArray, List.length_cons, List.length_nil, Nat.reduceAdd, Nat.reduceSub, Array.replicate_succ, Array.replicate_zero, List.push_toArray, List.append_toArray, List.nil_append, List.cons_append]
 gi_wp2
 go_ret
 exact ⟨rfl, rfl⟩
theorem records_stops (n : Nat) (hn : 1 ≤ n) (b c1 c2 : Nat) (h : List UInt8) (g : Nat) (hg : g < 18446744073709551616) (h64 : 64 ≤ h.length) (hmx : h.length ≤ 262144) (w : World) (hh : HalfAt w b h)
  (h1 : w.cell? ⟨c1, 0, none⟩ = some (.slice (some ⟨b, 0, none⟩) h.length h.length)) (h2 : w.cell? ⟨c2, 0, none⟩ = some (.int .u64 (g : Int))) :
  SeqStopsK Fence.wide n Tryz.prog 116 #[.pointer (some ⟨c1, 0, none⟩), .pointer (some ⟨c2, 0, none⟩)] encR (KeepP (threeB b c1 c2)) (fun ys => ys = recs h g) (fun _ => True) h.length w := fun l J Jx W hW hA hAx hY h0 => by
 refine (records1 n hn l b c1 c2 h g hg h64 hmx J Jx (fun pre A A' hj hb => hA pre A A' none hj (below_grown_none hb) (fun r e => by cases e)) (fun pre A A' hj hb => hAx pre A A' none hj (below_grown_none hb) (fun r e => by cases e)) hY W
  (hh.below hW hh.lt) ((hW.cell (p := ⟨c1, 0, none⟩) (World.block_lt_of_cell? w _ h1)).trans h1) ((hW.cell (p := ⟨c2, 0, none⟩) (World.block_lt_of_cell? w _ h2)).trans h2) h0).mono ?_
 rintro e W' ⟨he, ⟨ys, hys, hj⟩ | ⟨pre, hj⟩⟩
 ·exact ⟨he, .inl ⟨ys, hys, hj⟩⟩
 ·exact ⟨he, .inr ⟨pre, trivial, hj⟩⟩
def lastE (l : List (Nat × List UInt8)) : Nat := (l.getLast?.map (·.1)).getD 17
theorem lastE_snoc (l : List (Nat × List UInt8)) (x : Nat × List UInt8) : lastE (l ++ [x]) = x.1 := by unfold lastE; simp
def endR (h : List UInt8) (g : Nat) : Nat := lastE (recs h g)
theorem end_any (b : Nat) (h : List UInt8) (g : Nat) (hg : g < 18446744073709551616) (h64 : 64 ≤ h.length) (hmx : h.length ≤ 262144) (w : World) (hh : HalfAt w b h) :
  Calls Tryz.prog 86 #[.slice (some ⟨b, 0, none⟩) h.length h.length, .int .u64 (g : Int)] w fun e w' => e = .returned (.int .i64 (endR h g : Int)) ∧ Below w.heap.size w w' := by
 refine (callsIn_wide (n := 5)).1 ?_
 refine callsIn_of_wp_marks Tryz.func86 rfl trivial ?_ rfl
 simp only [Tryz.ntmps86, List.size_toArray, List.length_cons, List.length_nil, Nat.reduceAdd, Nat.reduceSub, Array.replicate_succ, Array.replicate_zero, List.push_toArray, List.append_toArray, List.nil_append, List.cons_append]
 gi_wp2_with fail
 refine ⟨trivial, (records_in _ b h.length g _).mono ?_⟩
 rintro e w2 ⟨rfl, rfl⟩
 gi_wp2_with fail
 obtain ⟨m, hm⟩ : ∃ m, m = h.length := ⟨_, rfl⟩
 have hlt := hh.lt
 obtain ⟨W2, hW2e⟩ : ∃ W2, ((w.alloc (.cells #[.int .i64 17] 3)).alloc (.cells #[.slice (some ⟨b, 0, none⟩) h.length h.length] 54)).alloc (.cells #[.int .u64 (g : Int)] 59) = W2 := ⟨_, rfl⟩
 have hB2 : Below w.heap.size w W2 := by rw [← hW2e]; exact (((Below.refl _ w).alloc (Nat.le_refl _) _).alloc (by simp) _).alloc (by simp; omega) _
 have hc0 : W2.heap[w.heap.size]? = some (.cells #[.int .i64 ((lastE [] : Nat) : Int)] 3) := by
  rw [← hW2e, Below.heap_alloc _ _ _ (by simp; omega), Below.heap_alloc _ _ _ (by simp)]; exact alloc_last _ _ rfl
 have h1 : W2.cell? ⟨w.heap.size + 1, 0, none⟩ = some (.slice (some ⟨b, 0, none⟩) h.length h.length) := by
  have e : W2.heap[w.heap.size + 1]? = some (.cells #[.slice (some ⟨b, 0, none⟩) h.length h.length] 54) := by
   rw [← hW2e, Below.heap_alloc _ _ _ (by simp)]; exact alloc_last _ _ (by simp)
  simp [World.cell?, e]
 have h2 : W2.cell? ⟨w.heap.size + 1 + 1, 0, none⟩ = some (.int .u64 (g : Int)) := by
  have e : W2.heap[w.heap.size + 1 + 1]? = some (.cells #[.int .u64 (g : Int)] 59) := by
   rw [← hW2e]; exact alloc_last _ _ (by simp)
  simp [World.cell?, e]
 have hz2 : W2.heap.size = w.heap.size + 3 := by rw [← hW2e]; simp
 change Code.wpIn _ _ _ _ _ _ (((w.alloc (.cells #[.int .i64 17] 3)).alloc (.cells #[.slice (some ⟨b, 0, none⟩) h.length h.length] 54)).alloc (.cells #[.int .u64 (g : Int)] 59))
 rw [hW2e]
 have HZ := Lib.hid hz2
 clear hz2 hW2e
 refine wpIn_rangeFunc_ownF rfl (by omega) (gf := 116) (lb := #[.pointer (some ⟨w.heap.size + 1, 0, none⟩), .pointer (some ⟨w.heap.size + 1 + 1, 0, none⟩)]) rfl trivial (enters_of Tryz.func116 (by kernel_rfl) rfl)
  (records_stops _ (by omega) b (w.heap.size + 1) (w.heap.size + 1 + 1) h g hg h64 hmx W2 (hh.below hB2 hlt) h1 h2) (fun h k => KeepP.trans h k) (keepP_b (fun z hz => by have := HZ.out; rcases hz with rfl | rfl | rfl <;> omega)) (Below.refl _ _) (fun _ => rfl)
  (fun pre W => W.heap[w.heap.size]? = some (.cells #[.int .i64 ((lastE pre : Nat) : Int)] 3) ∧ Below w.heap.size w W ∧ w.heap.size + 3 ≤ W.heap.size)
  (fun _ _ _ => False)
  (fun q A A' row hs hg hr => ⟨(grownBy_keeps_cells hg (fun r e => (hr r e).2) hs.1 rfl).trans hs.1, (ownFrom_below (β := List (Nat × List UInt8)) (Nat.le_refl _) hB2.size) q A A' row hs.2.1 hg hr, Nat.le_trans hs.2.2 hg.size⟩)
  (fun _ _ _ _ _ hs _ _ => hs)
  ⟨hc0, hB2, by rw [HZ.out]; omega⟩
  (fun x => { tmps := #[.slice (some ⟨b, 0, none⟩) h.length h.length, .int .u64 (g : Int), undef, undef, .int .i64 0, .pointer (some ⟨w.heap.size, 0, none⟩), .int .i64 (x.1 : Int), .slice (some ⟨b, 0, none⟩) h.length h.length, .int .u64 (g : Int), .func (.func 116) #[] #[.pointer (some ⟨w.heap.size + 1, 0, none⟩), .pointer (some ⟨w.heap.size + 1 + 1, 0, none⟩)], .int .i64 (x.1 : Int), .string (bytesOf x.2), undef, undef], defers := [] }) ?assign ?body ?done ?stop
 case assign =>
  rintro l ⟨x1, x2⟩ W K hK
  simp only [encR, List.zip_toArray, List.zip_cons_cons, List.zip_nil_right, Array.zip, List.foldl_toArray]
  gi_wp2
  exact hK
 case body =>
  rintro l pre x W ⟨hc, hB, hz⟩ _
  have k0 : W.cell? ⟨w.heap.size, 0, none⟩ = some (.int .i64 ((lastE pre : Nat) : Int)) := by simp [World.cell?, hc]
  have f0 : W.frozen? ⟨w.heap.size, 0, none⟩ = false := by simp [World.frozen?, hc]
  have HC := Lib.hid hc
  clear hc hc0 h1 h2
  gi_wp2
  refine ⟨KeepsOthers.setCell _ _ _, ?_, ?_, hB.setCell (by simp) _, by simp; omega⟩
  ·exact (KeepP.refl W).setCell (a := ⟨w.heap.size, 0, none⟩) (fun hz => by rcases hz with h | h | h <;> simp at h <;> omega) _
  ·rw [lastE_snoc]
   simp [World.setCell, Array.getElem?_modify, HC.out]
 case done =>
  rintro D ys W hD rfl ⟨hc, hB, hz⟩ hK
  have k0 : W.cell? ⟨w.heap.size, 0, none⟩ = some (.int .i64 ((lastE (recs h g) : Nat) : Int)) := by simp [World.cell?, hc]
  gi_wp2
  refine ⟨by simp, .inl ⟨_, _, rfl, run_takeDeferred hK, ?_⟩⟩
  refine ⟨_, results_tmp rfl _ _ _, rfl, hB.trans (belowK_b (w := w) (Nat.le_refl _) W D _ _ ?_ hK rfl rfl)⟩
  have := HZ.out; omega
 case stop =>
  rintro D c pre W _ _ h _
  exact h.elim
end
/- Walks: a disk: its records. -/
section
open Go.RowKit Go.Shelf
attribute [local go_sem] Oper.semAt_some
theorem infoStr : (Tryz.prog.info? 9).map (fun i => (i.zero, i.size, i.bytes)) = some (some (.string ByteArray.empty), 1, 16) := by kernel_rfl
def strV (l : List UInt8) : Value := .string (bytesOf l)
theorem owns_isCells {w : World} {base : Nat} {e : TypeId} {v : Value} {n : Nat} {xs : List Value} (h : w.owns base e 1 v n xs) (j : Nat) (o : Obj) (hj : v.ownBlock = some j) (ho : w.heap[j]? = some o) : o.isCells = true := by
 rcases h.2 with ⟨rfl, _⟩ | ⟨g, cap, cur, fz, rfl, _, hg, _⟩
 ·simp [Value.ownBlock] at hj
 ·simp [Value.ownBlock] at hj
  subst hj
  rw [hg] at ho; injection ho with ho; subst ho; rfl
def Dk.act (d : Dk) : List UInt8 := if d.half = 1 then d.h1 else d.h0
def Dk.texts (d : Dk) : List (List UInt8) := if d.half < 0 then [] else (recs d.act d.gen).map (·.2)
def Dk.seenErr (d : Dk) : Int := if d.half < 0 then 4 else 0
theorem genL_lt (h : List UInt8) : genL h < 9223372036854775808 := by
 unfold genL genB
 split
 ·rename_i h1
  simp only [Bool.and_eq_true, decide_eq_true_eq] at h1
  exact h1.1.2
 ·omega
theorem Dk.gen_lt (d : Dk) : d.gen < 9223372036854775808 := by
 have h0 := genL_lt d.h0
 have h1 := genL_lt d.h1
 unfold Dk.gen
 split
 ·omega
 ·split <;> omega
theorem Dk.half_cases (d : Dk) : d.half = -1 ∨ d.half = 0 ∨ d.half = 1 := by
 unfold Dk.half
 split
 ·exact .inl rfl
 ·split
  ·exact .inr (.inr rfl)
  ·exact .inr (.inl rfl)
theorem Records_any (p b0 b1 : Nat) (d : Dk) (w : World) (hd : DiskAt w p b0 b1 d) (ho : d.ok) :
  Calls Tryz.prog 43 #[.pointer (some ⟨p, 0, none⟩)] w fun e w' => (∃ v, e = .returned (.tuple #[v, .int .i64 d.seenErr]) ∧ w'.reads w'.heap.size v (d.texts.map strV) ∧ (∀ k, v.ownBlock = some k → w.heap.size ≤ k)) ∧ Below w.heap.size w w' := by
 have HACT := Lib.hid (active_any p b0 b1 d w hd ho)
 obtain ⟨k0, k1, -, -, -, -⟩ := four_cells hd.at_
 have HNO := Lib.hid (none_no p b0 d.size d.size w k0)
 have hpl := lt_of_heap hd.at_
 have HD := Lib.hid hd
 have HO := Lib.hid ho
 obtain ⟨r, hr⟩ : ∃ r, r = d.seenErr := ⟨_, rfl⟩
 rw [← hr]
 have HR := Lib.hid hr
 obtain ⟨x, hx⟩ : ∃ x, x = d.half := ⟨_, rfl⟩
 obtain ⟨y, hy⟩ : ∃ y, y = d.gen := ⟨_, rfl⟩
 rw [← hx, ← hy] at HACT
 have HX := Lib.hid hx
 have HY := Lib.hid hy
 have hyl : y < 18446744073709551616 := by have := d.gen_lt; omega
 clear hd ho hr hx hy
 refine (callsIn_wide (n := 5)).1 ?_
 refine callsIn_of_wp_marks Tryz.func43 rfl trivial ?_ rfl
 simp only [Tryz.ntmps43, List.size_toArray, List.length_cons, List.length_nil, Nat.reduceAdd, Nat.reduceSub, Array.replicate_succ, Array.replicate_zero, List.push_toArray, List.append_toArray, List.nil_append, List.cons_append]
 gi_wp2_with fail
 refine ⟨trivial, (callsIn_wide.2 HNO.out).mono ?_⟩
 rintro e w1 ⟨rfl, rfl⟩
 gi_wp2_with fail
 refine ⟨trivial, (callsIn_wide.2 HACT.out).mono ?_⟩
 rintro e w2 ⟨rfl, hb2⟩
 have hd2 := HD.out.kept hb2
 have HD2 := Lib.hid hd2
 clear k0 k1
 obtain ⟨k0, k1, -, -, -, -⟩ := four_cells hd2.at_
 clear hd2
 have hc : x = -1 ∨ x = 0 ∨ x = 1 := by rw [HX.out]; exact d.half_cases
 rcases hc with rfl | hx01
 ·obtain rfl : r = 4 := by rw [HR.out]; unfold Dk.seenErr; rw [← HX.out]; rfl
  gi_wp2
  refine postM_ret (v := .tuple #[.slice none 0 0, .int .i64 4]) (by simp [results, Tryz.results43, go_sem]) rfl ⟨⟨_, rfl, ?_, fun k e => by simp [Value.ownBlock] at e⟩, hb2⟩
  have ht : d.texts = [] := by unfold Dk.texts; rw [← HX.out]; rfl
  rw [ht]
  exact reads_nil _ _
 have lp2 : p < w2.heap.size := by have := hb2.size; omega
 have np2 : ¬ p = w2.heap.size := by omega
 have np3 : ¬ w2.heap.size = p := by omega
 rcases hx01 with rfl | rfl
 ·have HACTE : Hid (d.act = d.h0) := by show _ = _; unfold Dk.act; rw [← HX.out]; rfl
  obtain rfl : r = 0 := by rw [HR.out]; unfold Dk.seenErr; rw [← HX.out]; rfl
  have hhw := HD2.out.a0
  have hlt := hhw.lt
  have hlen : d.h0.length = d.size := HO.out.l0
  have h64 := HO.out.lo
  have hmx := HO.out.hi
  gi_wp2_with fail
  refine ⟨trivial, (records_in _ _ d.size y _).mono ?_⟩
  rintro e w3 ⟨rfl, rfl⟩
  gi_wp2_with fail
  obtain ⟨W2, hW2e⟩ : ∃ W2, ((w2.alloc (.cells #[.slice none 0 0] 70)).alloc (.cells #[.slice (some ⟨b0, 0, none⟩) d.size d.size] 54)).alloc (.cells #[.int .u64 (y : Int)] 59) = W2 := ⟨_, rfl⟩
  have hB2 : Below w2.heap.size w2 W2 := by rw [← hW2e]; exact (((Below.refl _ w2).alloc (Nat.le_refl _) _).alloc (by simp) _).alloc (by simp; omega) _
  have hc0 : W2.heap[w2.heap.size]? = some (.cells #[.slice none 0 0] 70) := by
   rw [← hW2e, Below.heap_alloc _ _ _ (by simp; omega), Below.heap_alloc _ _ _ (by simp)]; exact alloc_last _ _ rfl
  have h1 : W2.cell? ⟨w2.heap.size + 1, 0, none⟩ = some (.slice (some ⟨b0, 0, none⟩) d.size d.size) := by
   have e : W2.heap[w2.heap.size + 1]? = some (.cells #[.slice (some ⟨b0, 0, none⟩) d.size d.size] 54) := by
    rw [← hW2e, Below.heap_alloc _ _ _ (by simp)]; exact alloc_last _ _ (by simp)
   simp [World.cell?, e]
  have h2 : W2.cell? ⟨w2.heap.size + 1 + 1, 0, none⟩ = some (.int .u64 (y : Int)) := by
   have e : W2.heap[w2.heap.size + 1 + 1]? = some (.cells #[.int .u64 (y : Int)] 59) := by
    rw [← hW2e]; exact alloc_last _ _ (by simp)
   simp [World.cell?, e]
  have hz2 : W2.heap.size = w2.heap.size + 3 := by rw [← hW2e]; simp
  change Code.wpIn _ _ _ _ _ _ (((w2.alloc (.cells #[.slice none 0 0] 70)).alloc (.cells #[.slice (some ⟨b0, 0, none⟩) d.size d.size] 54)).alloc (.cells #[.int .u64 (y : Int)] 59))
  rw [hW2e]
  have HZ := Lib.hid hz2
  clear hz2 hW2e
  obtain ⟨i0, hi0, hiz, hiz1, hizb⟩ := info_parts infoStr
  rw [← hlen] at h1 h64 hmx
  have hst := records_stops 4 (by omega) b0 (w2.heap.size + 1) (w2.heap.size + 1 + 1) d.h0 y hyl h64 hmx W2 (hhw.below hB2 hlt) h1 h2
  rw [hlen] at h1 h64 hmx hst
  have hmx' : d.size ≤ 262144 := hmx
  refine wpIn_rangeFunc_ownF rfl (by omega) (gf := 116) (lb := #[.pointer (some ⟨w2.heap.size + 1, 0, none⟩), .pointer (some ⟨w2.heap.size + 1 + 1, 0, none⟩)]) rfl trivial (enters_of Tryz.func116 (by kernel_rfl) rfl)
   hst (fun h k => KeepP.trans h k) (keepP_b (fun z hz => by have := HZ.out; rcases hz with rfl | rfl | rfl <;> omega)) (Below.refl _ _) (fun _ => rfl)
   (fun pre W => ∃ v, W.heap[w2.heap.size]? = some (.cells #[v] 70) ∧ W.owns (w2.heap.size + 3) 9 1 v pre.length (pre.map fun q => strV q.2) ∧ Below w2.heap.size w2 W ∧ w2.heap.size + 3 ≤ W.heap.size)
   (fun _ _ _ => False)
   (fun q A A' row hs hg hr => by
    obtain ⟨v, s1, s2, s3, s4⟩ := hs
    refine ⟨v, (grownBy_keeps_cells hg (fun r e => (hr r e).2) s1 rfl).trans s1, s2.kept hg ?_, (ownFrom_below (β := List (Nat × List UInt8)) (Nat.le_refl _) hB2.size) q A A' row s3 hg hr, Nat.le_trans s4 hg.size⟩
    cases ho : v.ownBlock with
    | none => exact .inl rfl
    | some k =>
     refine .inr (fun e => ?_)
     obtain ⟨-, o, ho1, ho2⟩ := hr k e.symm
     have := owns_isCells s2 k o ho ho1
     rw [ho2] at this; cases this)
   (fun _ _ _ _ _ hs _ _ => hs)
   ⟨_, hc0, World.owns_nil _ _ _ _, hB2, by rw [HZ.out]; omega⟩
   (fun q => { tmps := #[.pointer (some ⟨p, 0, none⟩), undef, .slice none 0 0, .int .i64 0, .int .i64 0, .int .u64 (y : Int), .pointer (some ⟨w2.heap.size, 0, none⟩), undef, .string (bytesOf q.2), .pointer (some ⟨p, 0, none⟩), .bool false, .tuple #[.int .i64 0, .int .u64 (y : Int)], .pointer (some ⟨p, 0, none⟩), .tuple #[.int .i64 0, .int .u64 (y : Int)], .int .i64 0, .int .u64 (y : Int), .int .i64 0, .bool false, .pointer (some ⟨p, 0, none⟩), .int .i64 0, .pointer (some ⟨p, 0, none⟩), .pointer (some ⟨p, 0, none⟩), .pointer (some ⟨p, 0, none⟩), .slice (some ⟨b0, 0, none⟩) d.size d.size, .int .u64 (y : Int), .func (.func 116) #[] #[.pointer (some ⟨w2.heap.size + 1, 0, none⟩), .pointer (some ⟨w2.heap.size + 1 + 1, 0, none⟩)], .int .i64 (q.1 : Int), .string (bytesOf q.2), undef, undef, undef, undef, undef], defers := [] }) ?assign ?body ?done ?stop
  case assign =>
   rintro l ⟨x1, x2⟩ W K hK
   simp only [encR, List.zip_toArray, List.zip_cons_cons, List.zip_nil_right, Array.zip, List.foldl_toArray]
   gi_wp2
   exact hK
  case body =>
   rintro l pre ⟨x1, x2⟩ W ⟨v, hc, hown, hB, hz⟩ hpre
   have k0' : W.cell? ⟨w2.heap.size, 0, none⟩ = some v := by simp [World.cell?, hc]
   have HC := Lib.hid hc
   have HOW := Lib.hid hown
   clear hc hc0 h1 h2 hown k0 k1
   gi_wp2_with (gi_at_builtin; refine wpListIn_append1 W rfl (.tmp 28) (.tmp 30) 70 rfl (w2.heap.size + 3) 9 i0 (.string ByteArray.empty) 16 Tryz.underlying70 hi0 hiz hiz1 hizb rfl v pre.length (pre.map fun q => strV q.2) rfl HOW.out (strV x2) W.heap.size rfl rfl rfl (by unfold maxLen; omega) (by omega) (by omega) ?_; intro v4 w4 hown4 hg4a hg4 hz4; obtain ⟨g4, q4, rfl⟩ := hown4.succ; have hc4 : w4.heap[w2.heap.size]? = some (.cells #[v] 70) := (hg4.block _ (by omega) (fun e => by have := HOW.out.lt _ e.symm; omega)).trans HC.out; have k4 : w4.cell? ⟨w2.heap.size, 0, none⟩ = some v := (by simp [World.cell?, hc4]); have f4 : w4.frozen? ⟨w2.heap.size, 0, none⟩ = false := (by simp [World.frozen?, hc4]); have HC4 := Lib.hid hc4; have HO4 := Lib.hid hown4; have HG4 := Lib.hid hg4; clear hown4 hg4 hg4a hc4)
   refine ⟨(KeepsOthers.of_grownBy HG4.out (fun j o hj ho => owns_isCells HOW.out j o hj ho)).trans (KeepsOthers.setCell _ _ _), ?_, .slice (some ⟨g4, 0, none⟩) (pre.length + 1) q4, ?_, ?_, ?_, ?_⟩
   ·refine KeepP.setCell ?_ (fun hz => by rcases hz with h | h | h <;> simp at h <;> omega) _
    exact (KeepP.refl W).grown HG4.out (fun z hz => by have := HZ.out; rcases hz with rfl | rfl | rfl <;> omega) (fun r hr hz => by have := HOW.out.lt _ hr; rcases hz with rfl | rfl | rfl <;> omega)
   ·simp [World.setCell, Array.getElem?_modify, HC4.out]
   ·have h4 := HO4.out.setCell (a := ⟨w2.heap.size, 0, none⟩) (show w2.heap.size < w2.heap.size + 3 by omega) (.slice (some ⟨g4, 0, none⟩) (pre.length + 1) q4)
    rw [List.length_append, List.map_append]
    exact h4
   ·exact (hB.grown HG4.out hB.size (fun k e => by have := HOW.out.lt _ e; omega)).setCell (by simp) _
   ·simp; omega
  case done =>
   rintro D ys W hD rfl ⟨v, hc, hown, hB, hz⟩ hK
   have k0' : W.cell? ⟨w2.heap.size, 0, none⟩ = some v := by simp [World.cell?, hc]
   gi_wp2
   refine postM_mark (v := .tuple #[v, .int .i64 0]) hK (by simp [results, Tryz.results43, go_sem]) rfl ⟨⟨v, rfl, ?_, fun k e => (by have := hown.lt _ e; have := hb2.size; omega)⟩, hb2.trans ((hB.trans (belowK_b (w := w2) (Nat.le_refl _) W D _ _ (by have := HZ.out; omega) hK rfl rfl)).mono hb2.size)⟩
   have ht : d.texts = (recs d.h0 y).map (·.2) := by unfold Dk.texts; rw [HACTE.out, ← HX.out, ← HY.out]; rfl
   rw [ht, List.map_map]
   have hk := hown.kept (grownBy_putObj' W D (.deferred none)) (.inr (fun e => by
    have h5 := owns_isCells hown D _ e hK
    cases h5))
   exact hk.reads
  case stop =>
   rintro D c pre W _ _ h _
   exact h.elim
 ·have HACTE : Hid (d.act = d.h1) := by show _ = _; unfold Dk.act; rw [← HX.out]; rfl
  obtain rfl : r = 0 := by rw [HR.out]; unfold Dk.seenErr; rw [← HX.out]; rfl
  have hhw := HD2.out.a1
  have hlt := hhw.lt
  have hlen : d.h1.length = d.size := HO.out.l1
  have h64 := HO.out.lo
  have hmx := HO.out.hi
  gi_wp2_with fail
  refine ⟨trivial, (records_in _ _ d.size y _).mono ?_⟩
  rintro e w3 ⟨rfl, rfl⟩
  gi_wp2_with fail
  obtain ⟨W2, hW2e⟩ : ∃ W2, ((w2.alloc (.cells #[.slice none 0 0] 70)).alloc (.cells #[.slice (some ⟨b1, 0, none⟩) d.size d.size] 54)).alloc (.cells #[.int .u64 (y : Int)] 59) = W2 := ⟨_, rfl⟩
  have hB2 : Below w2.heap.size w2 W2 := by rw [← hW2e]; exact (((Below.refl _ w2).alloc (Nat.le_refl _) _).alloc (by simp) _).alloc (by simp; omega) _
  have hc0 : W2.heap[w2.heap.size]? = some (.cells #[.slice none 0 0] 70) := by
   rw [← hW2e, Below.heap_alloc _ _ _ (by simp; omega), Below.heap_alloc _ _ _ (by simp)]; exact alloc_last _ _ rfl
  have h1 : W2.cell? ⟨w2.heap.size + 1, 0, none⟩ = some (.slice (some ⟨b1, 0, none⟩) d.size d.size) := by
   have e : W2.heap[w2.heap.size + 1]? = some (.cells #[.slice (some ⟨b1, 0, none⟩) d.size d.size] 54) := by
    rw [← hW2e, Below.heap_alloc _ _ _ (by simp)]; exact alloc_last _ _ (by simp)
   simp [World.cell?, e]
  have h2 : W2.cell? ⟨w2.heap.size + 1 + 1, 0, none⟩ = some (.int .u64 (y : Int)) := by
   have e : W2.heap[w2.heap.size + 1 + 1]? = some (.cells #[.int .u64 (y : Int)] 59) := by
    rw [← hW2e]; exact alloc_last _ _ (by simp)
   simp [World.cell?, e]
  have hz2 : W2.heap.size = w2.heap.size + 3 := by rw [← hW2e]; simp
  change Code.wpIn _ _ _ _ _ _ (((w2.alloc (.cells #[.slice none 0 0] 70)).alloc (.cells #[.slice (some ⟨b1, 0, none⟩) d.size d.size] 54)).alloc (.cells #[.int .u64 (y : Int)] 59))
  rw [hW2e]
  have HZ := Lib.hid hz2
  clear hz2 hW2e
  obtain ⟨i0, hi0, hiz, hiz1, hizb⟩ := info_parts infoStr
  rw [← hlen] at h1 h64 hmx
  have hst := records_stops 4 (by omega) b1 (w2.heap.size + 1) (w2.heap.size + 1 + 1) d.h1 y hyl h64 hmx W2 (hhw.below hB2 hlt) h1 h2
  rw [hlen] at h1 h64 hmx hst
  have hmx' : d.size ≤ 262144 := hmx
  refine wpIn_rangeFunc_ownF rfl (by omega) (gf := 116) (lb := #[.pointer (some ⟨w2.heap.size + 1, 0, none⟩), .pointer (some ⟨w2.heap.size + 1 + 1, 0, none⟩)]) rfl trivial (enters_of Tryz.func116 (by kernel_rfl) rfl)
   hst (fun h k => KeepP.trans h k) (keepP_b (fun z hz => by have := HZ.out; rcases hz with rfl | rfl | rfl <;> omega)) (Below.refl _ _) (fun _ => rfl)
   (fun pre W => ∃ v, W.heap[w2.heap.size]? = some (.cells #[v] 70) ∧ W.owns (w2.heap.size + 3) 9 1 v pre.length (pre.map fun q => strV q.2) ∧ Below w2.heap.size w2 W ∧ w2.heap.size + 3 ≤ W.heap.size)
   (fun _ _ _ => False)
   (fun q A A' row hs hg hr => by
    obtain ⟨v, s1, s2, s3, s4⟩ := hs
    refine ⟨v, (grownBy_keeps_cells hg (fun r e => (hr r e).2) s1 rfl).trans s1, s2.kept hg ?_, (ownFrom_below (β := List (Nat × List UInt8)) (Nat.le_refl _) hB2.size) q A A' row s3 hg hr, Nat.le_trans s4 hg.size⟩
    cases ho : v.ownBlock with
    | none => exact .inl rfl
    | some k =>
     refine .inr (fun e => ?_)
     obtain ⟨-, o, ho1, ho2⟩ := hr k e.symm
     have := owns_isCells s2 k o ho ho1
     rw [ho2] at this; cases this)
   (fun _ _ _ _ _ hs _ _ => hs)
   ⟨_, hc0, World.owns_nil _ _ _ _, hB2, by rw [HZ.out]; omega⟩
   (fun q => { tmps := #[.pointer (some ⟨p, 0, none⟩), undef, .slice none 0 0, .int .i64 0, .int .i64 1, .int .u64 (y : Int), .pointer (some ⟨w2.heap.size, 0, none⟩), undef, .string (bytesOf q.2), .pointer (some ⟨p, 0, none⟩), .bool false, .tuple #[.int .i64 1, .int .u64 (y : Int)], .pointer (some ⟨p, 0, none⟩), .tuple #[.int .i64 1, .int .u64 (y : Int)], .int .i64 1, .int .u64 (y : Int), .int .i64 1, .bool false, .pointer (some ⟨p, 0, none⟩), .int .i64 1, .pointer (some ⟨p, 0, none⟩), .pointer (some ⟨p, 0, none⟩), .pointer (some ⟨p, 1, none⟩), .slice (some ⟨b1, 0, none⟩) d.size d.size, .int .u64 (y : Int), .func (.func 116) #[] #[.pointer (some ⟨w2.heap.size + 1, 0, none⟩), .pointer (some ⟨w2.heap.size + 1 + 1, 0, none⟩)], .int .i64 (q.1 : Int), .string (bytesOf q.2), undef, undef, undef, undef, undef], defers := [] }) ?assign ?body ?done ?stop
  case assign =>
   rintro l ⟨x1, x2⟩ W K hK
   simp only [encR, List.zip_toArray, List.zip_cons_cons, List.zip_nil_right, Array.zip, List.foldl_toArray]
   gi_wp2
   exact hK
  case body =>
   rintro l pre ⟨x1, x2⟩ W ⟨v, hc, hown, hB, hz⟩ hpre
   have k0' : W.cell? ⟨w2.heap.size, 0, none⟩ = some v := by simp [World.cell?, hc]
   have HC := Lib.hid hc
   have HOW := Lib.hid hown
   clear hc hc0 h1 h2 hown k0 k1
   gi_wp2_with (gi_at_builtin; refine wpListIn_append1 W rfl (.tmp 28) (.tmp 30) 70 rfl (w2.heap.size + 3) 9 i0 (.string ByteArray.empty) 16 Tryz.underlying70 hi0 hiz hiz1 hizb rfl v pre.length (pre.map fun q => strV q.2) rfl HOW.out (strV x2) W.heap.size rfl rfl rfl (by unfold maxLen; omega) (by omega) (by omega) ?_; intro v4 w4 hown4 hg4a hg4 hz4; obtain ⟨g4, q4, rfl⟩ := hown4.succ; have hc4 : w4.heap[w2.heap.size]? = some (.cells #[v] 70) := (hg4.block _ (by omega) (fun e => by have := HOW.out.lt _ e.symm; omega)).trans HC.out; have k4 : w4.cell? ⟨w2.heap.size, 0, none⟩ = some v := (by simp [World.cell?, hc4]); have f4 : w4.frozen? ⟨w2.heap.size, 0, none⟩ = false := (by simp [World.frozen?, hc4]); have HC4 := Lib.hid hc4; have HO4 := Lib.hid hown4; have HG4 := Lib.hid hg4; clear hown4 hg4 hg4a hc4)
   refine ⟨(KeepsOthers.of_grownBy HG4.out (fun j o hj ho => owns_isCells HOW.out j o hj ho)).trans (KeepsOthers.setCell _ _ _), ?_, .slice (some ⟨g4, 0, none⟩) (pre.length + 1) q4, ?_, ?_, ?_, ?_⟩
   ·refine KeepP.setCell ?_ (fun hz => by rcases hz with h | h | h <;> simp at h <;> omega) _
    exact (KeepP.refl W).grown HG4.out (fun z hz => by have := HZ.out; rcases hz with rfl | rfl | rfl <;> omega) (fun r hr hz => by have := HOW.out.lt _ hr; rcases hz with rfl | rfl | rfl <;> omega)
   ·simp [World.setCell, Array.getElem?_modify, HC4.out]
   ·have h4 := HO4.out.setCell (a := ⟨w2.heap.size, 0, none⟩) (show w2.heap.size < w2.heap.size + 3 by omega) (.slice (some ⟨g4, 0, none⟩) (pre.length + 1) q4)
    rw [List.length_append, List.map_append]
    exact h4
   ·exact (hB.grown HG4.out hB.size (fun k e => by have := HOW.out.lt _ e; omega)).setCell (by simp) _
   ·simp; omega
  case done =>
   rintro D ys W hD rfl ⟨v, hc, hown, hB, hz⟩ hK
   have k0' : W.cell? ⟨w2.heap.size, 0, none⟩ = some v := by simp [World.cell?, hc]
   gi_wp2
   refine postM_mark (v := .tuple #[v, .int .i64 0]) hK (by simp [results, Tryz.results43, go_sem]) rfl ⟨⟨v, rfl, ?_, fun k e => (by have := hown.lt _ e; have := hb2.size; omega)⟩, hb2.trans ((hB.trans (belowK_b (w := w2) (Nat.le_refl _) W D _ _ (by have := HZ.out; omega) hK rfl rfl)).mono hb2.size)⟩
   have ht : d.texts = (recs d.h1 y).map (·.2) := by unfold Dk.texts; rw [HACTE.out, ← HX.out, ← HY.out]; rfl
   rw [ht, List.map_map]
   have hk := hown.kept (grownBy_putObj' W D (.deferred none)) (.inr (fun e => by
    have h5 := owns_isCells hown D _ e hK
    cases h5))
   exact hk.reads
  case stop =>
   rintro D c pre W _ _ h _
   exact h.elim
end
/- Walks: a disk: what writes bytes. -/
section
open Go.RowKit Go.Shelf
/-! ### what is kept -/
/-- All blocks but some are kept. -/
structure Kp (P : Nat → Prop) (w w' : World) : Prop where
 os : w'.os = w.os
 tape : w'.tape = w.tape
 output : w'.output = w.output
 size : w.heap.size ≤ w'.heap.size
 block : ∀ k, k < w.heap.size → ¬ P k → w'.heap[k]? = w.heap[k]?
theorem Kp.refl (P : Nat → Prop) (w : World) : Kp P w w := ⟨rfl, rfl, rfl, Nat.le_refl _, fun _ _ _ => rfl⟩
theorem Kp.trans {P : Nat → Prop} {a b c : World} (h : Kp P a b) (k : Kp P b c) : Kp P a c :=
 ⟨k.os.trans h.os, k.tape.trans h.tape, k.output.trans h.output, Nat.le_trans h.size k.size, fun i hi hp => (k.block i (Nat.lt_of_lt_of_le hi h.size) hp).trans (h.block i hi hp)⟩
theorem Kp.of_below {P : Nat → Prop} {w w' : World} (h : Below w.heap.size w w') : Kp P w w' := ⟨h.os, h.tape, h.output, h.size, fun k hk _ => h.block k hk⟩
theorem Kp.below {P : Nat → Prop} {w w' : World} {B : Nat} (h : Kp P w w') (hB : B ≤ w.heap.size) (hP : ∀ k, P k → B ≤ k) : Below B w w' :=
 ⟨h.os, h.tape, h.output, h.size, fun k hk => h.block k (by omega) (fun hp => by have := hP k hp; omega)⟩
theorem Kp.mono {P P' : Nat → Prop} {w w' : World} (h : Kp P w w') (hP : ∀ k, P k → P' k) : Kp P' w w' := ⟨h.os, h.tape, h.output, h.size, fun k hk hp => h.block k hk (fun q => hp (hP k q))⟩
theorem Kp.drew {P : Nat → Prop} {w w' : World} (h : Kp P w w') : Kp P w w'.drew := ⟨h.os, h.tape, h.output, h.size, h.block⟩
theorem Kp.setCell {P : Nat → Prop} {w w' : World} (h : Kp P w w') {a : Addr} (ha : P a.block) (u : Value) : Kp P w (w'.setCell a u) :=
 ⟨h.os, h.tape, h.output, by simpa using h.size, fun k hk hp => (Below.heap_setCell w' a u k (fun e => hp (e ▸ ha))).trans (h.block k hk hp)⟩
theorem Kp.cell {P : Nat → Prop} {w w' : World} (h : Kp P w w') {b o : Nat} {v : Value} (hp : ¬ P b) (hc : w.cell? ⟨b, o, none⟩ = some v) : w'.cell? ⟨b, o, none⟩ = some v :=
 (World.cell?_of_block (a := ⟨b, o, none⟩) (h.block b (World.block_lt_of_cell? w ⟨b, o, none⟩ hc) hp)).trans hc
def two (p b k : Nat) : Prop := k = p ∨ k = b
def three (p b0 b1 k : Nat) : Prop := k = p ∨ k = b0 ∨ k = b1
/-! ### bytes that are written -/
structure Wr where
 (h : List UInt8)
 (fuse : Int)
 (failed : Bool)
def putS : Wr → Nat → List UInt8 → Wr
 | st, _, [] => st
 | st, k, c :: s => if st.failed = true ∨ st.fuse = 0 then ⟨st.h, st.fuse, true⟩ else putS ⟨st.h.set k c, if 0 < st.fuse then st.fuse - 1 else st.fuse, false⟩ (k + 1) s
theorem putS_stop {st : Wr} {k : Nat} {s : List UInt8} (hs : s ≠ []) (h : st.failed = true ∨ st.fuse = 0) : putS st k s = ⟨st.h, st.fuse, true⟩ := by
 cases s with
 | nil => exact absurd rfl hs
 | cons c s => unfold putS; rw [if_pos h]
theorem putS_step {st : Wr} {k : Nat} {c : UInt8} {s : List UInt8} (h : ¬ (st.failed = true ∨ st.fuse = 0)) : putS st k (c :: s) = putS ⟨st.h.set k c, if 0 < st.fuse then st.fuse - 1 else st.fuse, false⟩ (k + 1) s := by
 rw [putS, if_neg h]
/-- The half under way: b is block and l the length. -/
structure WrAt (w : World) (p b n : Nat) (x y : Value) (st : Wr) : Prop where
 at_ : w.heap[p]? = some (.cells #[x, y, .int .i64 st.fuse, .bool st.failed] 57)
 half : HalfAt w b st.h
 len : st.h.length = n
 ne : ¬ b = p
 f1 : -1 ≤ st.fuse
 f2 : st.fuse ≤ 9223372036854775807
theorem WrAt.setFailed {w : World} {p b n : Nat} {x y : Value} {st : Wr} (h : WrAt w p b n x y st) (z : Bool) : WrAt (w.setCell ⟨p, 3, none⟩ (.bool z)) p b n x y ⟨st.h, st.fuse, z⟩ :=
 ⟨by simp [World.setCell, Array.getElem?_modify, h.at_], by obtain ⟨t, ht⟩ := h.half; exact ⟨t, (Below.heap_setCell w ⟨p, 3, none⟩ _ b h.ne).trans ht⟩, h.len, h.ne, h.f1, h.f2⟩
theorem WrAt.setFuse {w : World} {p b n : Nat} {x y : Value} {st : Wr} (h : WrAt w p b n x y st) (z : Int) (h1 : -1 ≤ z) (h2 : z ≤ 9223372036854775807) : WrAt (w.setCell ⟨p, 2, none⟩ (.int .i64 z)) p b n x y ⟨st.h, z, st.failed⟩ :=
 ⟨by simp [World.setCell, Array.getElem?_modify, h.at_], by obtain ⟨t, ht⟩ := h.half; exact ⟨t, (Below.heap_setCell w ⟨p, 2, none⟩ _ b h.ne).trans ht⟩, h.len, h.ne, h1, h2⟩
theorem WrAt.setByte {w : World} {p b n : Nat} {x y : Value} {st : Wr} (h : WrAt w p b n x y st) (k : Nat) (c : UInt8) : WrAt (w.setCell ⟨b, k, none⟩ (byteV c)) p b n x y ⟨st.h.set k c, st.fuse, st.failed⟩ :=
 ⟨(Below.heap_setCell w ⟨b, k, none⟩ _ p (Ne.symm h.ne)).trans h.at_, by obtain ⟨t, ht⟩ := h.half; exact ⟨t, half_set ht k c⟩, by rw [List.length_set]; exact h.len, h.ne, h.f1, h.f2⟩
theorem WrAt.drew {w : World} {p b n : Nat} {x y : Value} {st : Wr} (h : WrAt w p b n x y st) : WrAt w.drew p b n x y st := ⟨h.at_, h.half, h.len, h.ne, h.f1, h.f2⟩
theorem writer1_any (c1 c2 p b n k : Nat) (x y : Value) (st : Wr) (s : List UInt8) (hk : k + s.length ≤ n) (hn : n ≤ 262144) (w : World) (hw : WrAt w p b n x y st)
  (h1 : w.cell? ⟨c1, 0, none⟩ = some (.pointer (some ⟨p, 0, none⟩))) (h2 : w.cell? ⟨c2, 0, none⟩ = some (.slice (some ⟨b, 0, none⟩) n n)) (n1 : ¬ two p b c1) (n2 : ¬ two p b c2) :
  Calls Tryz.prog 113 #[.int .i64 (k : Int), .string (bytesOf s), .pointer (some ⟨c1, 0, none⟩), .pointer (some ⟨c2, 0, none⟩)] w fun e w' => (∃ v, e = .returned v) ∧ WrAt w' p b n x y (putS st k s) ∧ Kp (two p b) w w' := by
 obtain ⟨m, hm⟩ : ∃ m, m = s.length := ⟨_, rfl⟩
 have hs : (bytesOf s).size = m := by rw [hm]; rfl
 have hs1 : ((bytesOf s).size : Int) = (m : Int) := by rw [hs]
 obtain ⟨r, hr⟩ : ∃ r, r = putS st k s := ⟨_, rfl⟩
 rw [← hr]
 have HR := Lib.hid hr
 have HM := Lib.hid hm
 rw [← hm] at hk
 have H1 := Lib.hid h1
 have H2 := Lib.hid h2
 have HW := Lib.hid hw
 have N1 := Lib.hid n1
 have N2 := Lib.hid n2
 clear hm hr h1 h2 n1 n2 hw
 have hro : Fence.wide.round = none := rfl
 refine (callsIn_wide (n := 5)).1 ?_
 refine callsIn_of_wp Tryz.func113 rfl trivial ?_ rfl
 simp only [Tryz.ntmps113, List.size_toArray, List.length_cons, List.length_nil, Nat.reduceAdd, Nat.reduceSub, Array.replicate_succ, Array.replicate_zero, List.push_toArray, List.append_toArray, List.nil_append, List.cons_append]
 gi_wp2_with fail
 gi_loopw [9] (fun ii wr => ∃ (i : Nat) (si : Wr), i ≤ m ∧ ii = .int .i64 (i : Int) ∧ Hid (r = putS si (k + i) (s.drop i)) ∧ Hid (WrAt wr p b n x y si) ∧ Hid (Kp (two p b) w wr)) (fun ii _ => m - (intOf ii).toNat)
 case atStart => exact ⟨0, st, Nat.zero_le _, rfl, HR.out, HW.out, Kp.refl _ _⟩
 case round =>
  obtain ⟨i, si, hi, rfl, hR, hWr, hKp⟩ := hrel
  have hz : s.length = m := HM.out.symm
  have k1 := hKp.out.cell N1.out H1.out
  have k2 := hKp.out.cell N2.out H2.out
  obtain ⟨-, -, e2, e3, f2, f3⟩ := four_cells hWr.out.at_
  by_cases hlt : i < m
  case neg =>
   obtain rfl : i = m := by omega
   have hrr : r = si := by rw [hR.out, List.drop_of_length_le (by omega)]; rfl
   have HRR := Lib.hid hrr
   clear hrr
   gi_wp2
   go_end0
   exact ⟨⟨_, rfl⟩, by rw [HRR.out]; exact hWr.out, hKp.out⟩
  obtain ⟨c, hc⟩ : ∃ c, s[i]? = some c := ⟨s[i]'(by omega), List.getElem?_eq_getElem _⟩
  have hdr : s.drop i = c :: s.drop (i + 1) := by
   rw [List.drop_eq_getElem_cons (by omega)]
   congr 1
   rw [List.getElem?_eq_getElem (by omega)] at hc
   injection hc
  have HDR := Lib.hid hdr
  have HC := Lib.hid hc
  clear hdr hc
  cases hfd : si.failed
  case true =>
   rw [hfd] at e3
   have hrr : r = ⟨si.h, si.fuse, true⟩ := by rw [hR.out, putS_stop (by rw [HDR.out]; simp) (Or.inl hfd)]
   have HRR := Lib.hid hrr
   clear hrr
   gi_wp2_with fail
   refine wpIn_region_K (fun w' => w'.cell? ⟨c1, 0, none⟩ = some (.pointer (some ⟨p, 0, none⟩)) ∧ w'.cell? ⟨p, 3, none⟩ = some (.bool true) ∧ w'.frozen? ⟨p, 3, none⟩ = false) 14 (by kernel_rfl) ⟨k1, e3, f3⟩ (fun hS => ?_)
   refine wpAnyKC_takeL 0 20 (v := ?_) hro (by kernel_rfl) (by kernel_rfl) (by kernel_rfl) rfl (by kernel_rfl) (by kernel_rfl) (fun _ _ _ h => h) (Or.inl ⟨by rfl, ?_⟩) (fun _ => rfl) (by assumption) ?_
   rotate_left
   ·(intro wq hSq; (try dsimp only at hSq); go_simp; try with_reducible rfl)
   try simp only [q0P, q0Q, q0R, q0S]
   refine wpAnyKC_takeL 1 20 (v := ?_) hro (by kernel_rfl) (by kernel_rfl) (by kernel_rfl) rfl (by kernel_rfl) (by kernel_rfl) (fun _ _ _ h => h) (Or.inl ⟨by rfl, ?_⟩) (fun _ => rfl) (by assumption) ?_
   rotate_left
   ·(intro wq hSq; (try dsimp only at hSq); go_simp; try with_reducible rfl)
   try simp only [q0P, q0Q, q0R, q0S]
   refine wpAnyKC_takeL 2 20 (v := ?_) hro (by kernel_rfl) (by kernel_rfl) (by kernel_rfl) rfl (by kernel_rfl) (by kernel_rfl) (fun _ _ _ h => h) (Or.inl ⟨by rfl, ?_⟩) (fun _ => rfl) (by assumption) ?_
   rotate_left
   ·(intro wq hSq; (try dsimp only at hSq); go_simp; try with_reducible rfl)
   try simp only [q0P, q0Q, q0R, q0S]
   refine wpAnyKC_takeL 3 20 (v := ?_) hro (by kernel_rfl) (by kernel_rfl) (by kernel_rfl) rfl (by kernel_rfl) (by kernel_rfl) (fun _ _ _ h => h) (Or.inl ⟨by rfl, ?_⟩) (fun _ => rfl) (by assumption) ?_
   rotate_left
   ·(intro wq hSq; (try dsimp only at hSq); go_simp; try with_reducible rfl)
   try simp only [q0P, q0Q, q0R, q0S]
   refine wpAnyKC_takeL 4 20 (v := ?_) hro (by kernel_rfl) (by kernel_rfl) (by kernel_rfl) rfl (by kernel_rfl) (by kernel_rfl) (fun _ _ _ h => h) (Or.inl ⟨by rfl, ?_⟩) (fun _ => rfl) (by assumption) ?_
   rotate_left
   ·(intro wq hSq; (try dsimp only at hSq); go_simp; try with_reducible rfl)
   try simp only [q0P, q0Q, q0R, q0S]
   refine wpAnyKC_takeL 5 20 (v := ?_) hro (by kernel_rfl) (by kernel_rfl) (by kernel_rfl) rfl (by kernel_rfl) (by kernel_rfl) (fun _ _ _ h => h) (Or.inl ⟨by rfl, ?_⟩) (fun _ => rfl) (by assumption) ?_
   rotate_left
   ·(intro wq hSq; (try dsimp only at hSq); go_simp; try with_reducible rfl)
   try simp only [q0P, q0Q, q0R, q0S]
   refine wpAnyKC_takeL 6 20 (v := undef) hro (by kernel_rfl) (by kernel_rfl) (by kernel_rfl) rfl (by kernel_rfl) (by kernel_rfl) (fun _ _ _ h => h) (Or.inr ⟨by rfl, rfl⟩) (fun _ => rfl) (by assumption) ?_
   try simp only [q0P, q0Q, q0R, q0S]
   refine wpAnyKC_takeL 7 20 (v := undef) hro (by kernel_rfl) (by kernel_rfl) (by kernel_rfl) rfl (by kernel_rfl) (by kernel_rfl) (fun _ _ _ h => h) (Or.inr ⟨by rfl, rfl⟩) (fun _ => rfl) (by assumption) ?_
   try simp only [q0P, q0Q, q0R, q0S]
   refine wpAnyKC_takeL 8 20 (v := undef) hro (by kernel_rfl) (by kernel_rfl) (by kernel_rfl) rfl (by kernel_rfl) (by kernel_rfl) (fun _ _ _ h => h) (Or.inr ⟨by rfl, rfl⟩) (fun _ => rfl) (by assumption) ?_
   try simp only [q0P, q0Q, q0R, q0S]
   refine wpAnyKC_takeL 9 20 (v := undef) hro (by kernel_rfl) (by kernel_rfl) (by kernel_rfl) rfl (by kernel_rfl) (by kernel_rfl) (fun _ _ _ h => h) (Or.inr ⟨by rfl, rfl⟩) (fun _ => rfl) (by assumption) ?_
   try simp only [q0P, q0Q, q0R, q0S]
   refine wpAnyKC_takeL 10 20 (v := undef) hro (by kernel_rfl) (by kernel_rfl) (by kernel_rfl) rfl (by kernel_rfl) (by kernel_rfl) (fun _ _ _ h => h) (Or.inr ⟨by rfl, rfl⟩) (fun _ => rfl) (by assumption) ?_
   try simp only [q0P, q0Q, q0R, q0S]
   refine wpAnyKC_takeL 11 20 (v := ?_) hro (by kernel_rfl) (by kernel_rfl) (by kernel_rfl) rfl (by kernel_rfl) (by kernel_rfl) (fun _ _ _ h => h) (Or.inl ⟨by rfl, ?_⟩) (fun _ => rfl) (by assumption) ?_
   rotate_left
   ·(intro wq hSq; (try dsimp only at hSq); go_simp; try with_reducible rfl)
   try simp only [q0P, q0Q, q0R, q0S]
   refine wpAnyKC_takeL 12 20 (v := ?_) hro (by kernel_rfl) (by kernel_rfl) (by kernel_rfl) rfl (by kernel_rfl) (by kernel_rfl) (fun _ _ _ h => h) (Or.inl ⟨by rfl, ?_⟩) (fun _ => rfl) (by assumption) ?_
   rotate_left
   ·(intro wq hSq; (try dsimp only at hSq); go_simp; try with_reducible rfl)
   try simp only [q0P, q0Q, q0R, q0S]
   refine wpAnyKC_takeL 13 20 (v := ?_) hro (by kernel_rfl) (by kernel_rfl) (by kernel_rfl) rfl (by kernel_rfl) (by kernel_rfl) (fun _ _ _ h => h) (Or.inl ⟨by rfl, ?_⟩) (fun _ => rfl) (by assumption) ?_
   rotate_left
   ·(intro wq hSq; (try dsimp only at hSq); go_simp; try with_reducible rfl)
   try simp only [q0P, q0Q, q0R, q0S]
   refine wpAnyKC_stepL 14 (by kernel_rfl) rfl (fun K hK => ?_)
   go_simp
   refine hK.out _ _ (fun h => by cases h) ?_
   clear hK K hS
   try simp only [q0P, q0Q, q0R, q0S]
   refine wpAnyKC_end (by kernel_rfl) ?_
   have hA4 : Hid (WrAt ((wr.setCell ⟨p, 3, none⟩ (.bool true)).drew) p b n x y ⟨si.h, si.fuse, true⟩) := (hWr.out.setFailed _).drew
   have hK4 : Hid (Kp (two p b) w ((wr.setCell ⟨p, 3, none⟩ (.bool true)).drew)) := (hKp.out.setCell (Or.inl rfl) _).drew
   generalize (wr.setCell ⟨p, 3, none⟩ (.bool true)).drew = w4 at hA4 hK4 ⊢
   clear k1 k2 e2 e3 f2 f3
   have k1 := hK4.out.cell N1.out H1.out
   have k2 := hK4.out.cell N2.out H2.out
   have q2 : w4.cell? ⟨p, 2, none⟩ = some (.int .i64 si.fuse) := (four_cells hA4.out.at_).2.2.1
   have q3 : w4.cell? ⟨p, 3, none⟩ = some (.bool true) := (four_cells hA4.out.at_).2.2.2.1
   have g2 : w4.frozen? ⟨p, 2, none⟩ = false := (four_cells hA4.out.at_).2.2.2.2.1
   gi_wp2
   refine bodyPost_ret (results_none rfl _ _ _) rfl ?_
   exact ⟨⟨_, rfl⟩, by rw [HRR.out]; exact hA4.out, hK4.out⟩
  case false =>
   rw [hfd] at e3
   by_cases hf0 : si.fuse = 0
   ·rw [hf0] at e2
    have hrr : r = ⟨si.h, si.fuse, true⟩ := by rw [hR.out, putS_stop (by rw [HDR.out]; simp) (Or.inr hf0)]
    have HRR := Lib.hid hrr
    clear hrr
    gi_wp2_with fail
    refine wpIn_region_K (fun w' => w'.cell? ⟨c1, 0, none⟩ = some (.pointer (some ⟨p, 0, none⟩)) ∧ w'.cell? ⟨p, 3, none⟩ = some (.bool false) ∧ w'.cell? ⟨p, 2, none⟩ = some (.int .i64 0) ∧ w'.frozen? ⟨p, 3, none⟩ = false) 14 (by kernel_rfl) ⟨k1, e3, e2, f3⟩ (fun hS => ?_)
    refine wpAnyKC_takeL 0 20 (v := ?_) hro (by kernel_rfl) (by kernel_rfl) (by kernel_rfl) rfl (by kernel_rfl) (by kernel_rfl) (fun _ _ _ h => h) (Or.inl ⟨by rfl, ?_⟩) (fun _ => rfl) (by assumption) ?_
    rotate_left
    ·(intro wq hSq; (try dsimp only at hSq); go_simp; try with_reducible rfl)
    try simp only [q0P, q0Q, q0R, q0S]
    refine wpAnyKC_takeL 1 20 (v := ?_) hro (by kernel_rfl) (by kernel_rfl) (by kernel_rfl) rfl (by kernel_rfl) (by kernel_rfl) (fun _ _ _ h => h) (Or.inl ⟨by rfl, ?_⟩) (fun _ => rfl) (by assumption) ?_
    rotate_left
    ·(intro wq hSq; (try dsimp only at hSq); go_simp; try with_reducible rfl)
    try simp only [q0P, q0Q, q0R, q0S]
    refine wpAnyKC_takeL 2 20 (v := ?_) hro (by kernel_rfl) (by kernel_rfl) (by kernel_rfl) rfl (by kernel_rfl) (by kernel_rfl) (fun _ _ _ h => h) (Or.inl ⟨by rfl, ?_⟩) (fun _ => rfl) (by assumption) ?_
    rotate_left
    ·(intro wq hSq; (try dsimp only at hSq); go_simp; try with_reducible rfl)
    try simp only [q0P, q0Q, q0R, q0S]
    refine wpAnyKC_takeL 3 20 (v := ?_) hro (by kernel_rfl) (by kernel_rfl) (by kernel_rfl) rfl (by kernel_rfl) (by kernel_rfl) (fun _ _ _ h => h) (Or.inl ⟨by rfl, ?_⟩) (fun _ => rfl) (by assumption) ?_
    rotate_left
    ·(intro wq hSq; (try dsimp only at hSq); go_simp; try with_reducible rfl)
    try simp only [q0P, q0Q, q0R, q0S]
    refine wpAnyKC_takeL 4 20 (v := ?_) hro (by kernel_rfl) (by kernel_rfl) (by kernel_rfl) rfl (by kernel_rfl) (by kernel_rfl) (fun _ _ _ h => h) (Or.inl ⟨by rfl, ?_⟩) (fun _ => rfl) (by assumption) ?_
    rotate_left
    ·(intro wq hSq; (try dsimp only at hSq); go_simp; try with_reducible rfl)
    try simp only [q0P, q0Q, q0R, q0S]
    refine wpAnyKC_takeL 5 20 (v := ?_) hro (by kernel_rfl) (by kernel_rfl) (by kernel_rfl) rfl (by kernel_rfl) (by kernel_rfl) (fun _ _ _ h => h) (Or.inl ⟨by rfl, ?_⟩) (fun _ => rfl) (by assumption) ?_
    rotate_left
    ·(intro wq hSq; (try dsimp only at hSq); go_simp; try with_reducible rfl)
    try simp only [q0P, q0Q, q0R, q0S]
    refine wpAnyKC_takeL 6 20 (v := ?_) hro (by kernel_rfl) (by kernel_rfl) (by kernel_rfl) rfl (by kernel_rfl) (by kernel_rfl) (fun _ _ _ h => h) (Or.inl ⟨by rfl, ?_⟩) (fun _ => rfl) (by assumption) ?_
    rotate_left
    ·(intro wq hSq; (try dsimp only at hSq); go_simp; try with_reducible rfl)
    try simp only [q0P, q0Q, q0R, q0S]
    refine wpAnyKC_takeL 7 20 (v := ?_) hro (by kernel_rfl) (by kernel_rfl) (by kernel_rfl) rfl (by kernel_rfl) (by kernel_rfl) (fun _ _ _ h => h) (Or.inl ⟨by rfl, ?_⟩) (fun _ => rfl) (by assumption) ?_
    rotate_left
    ·(intro wq hSq; (try dsimp only at hSq); go_simp; try with_reducible rfl)
    try simp only [q0P, q0Q, q0R, q0S]
    refine wpAnyKC_takeL 8 20 (v := ?_) hro (by kernel_rfl) (by kernel_rfl) (by kernel_rfl) rfl (by kernel_rfl) (by kernel_rfl) (fun _ _ _ h => h) (Or.inl ⟨by rfl, ?_⟩) (fun _ => rfl) (by assumption) ?_
    rotate_left
    ·(intro wq hSq; (try dsimp only at hSq); go_simp; try with_reducible rfl)
    try simp only [q0P, q0Q, q0R, q0S]
    refine wpAnyKC_takeL 9 20 (v := ?_) hro (by kernel_rfl) (by kernel_rfl) (by kernel_rfl) rfl (by kernel_rfl) (by kernel_rfl) (fun _ _ _ h => h) (Or.inl ⟨by rfl, ?_⟩) (fun _ => rfl) (by assumption) ?_
    rotate_left
    ·(intro wq hSq; (try dsimp only at hSq); go_simp; try with_reducible rfl)
    try simp only [q0P, q0Q, q0R, q0S]
    refine wpAnyKC_takeL 10 20 (v := ?_) hro (by kernel_rfl) (by kernel_rfl) (by kernel_rfl) rfl (by kernel_rfl) (by kernel_rfl) (fun _ _ _ h => h) (Or.inl ⟨by rfl, ?_⟩) (fun _ => rfl) (by assumption) ?_
    rotate_left
    ·(intro wq hSq; (try dsimp only at hSq); go_simp; try with_reducible rfl)
    try simp only [q0P, q0Q, q0R, q0S]
    refine wpAnyKC_takeL 11 20 (v := ?_) hro (by kernel_rfl) (by kernel_rfl) (by kernel_rfl) rfl (by kernel_rfl) (by kernel_rfl) (fun _ _ _ h => h) (Or.inl ⟨by rfl, ?_⟩) (fun _ => rfl) (by assumption) ?_
    rotate_left
    ·(intro wq hSq; (try dsimp only at hSq); go_simp; try with_reducible rfl)
    try simp only [q0P, q0Q, q0R, q0S]
    refine wpAnyKC_takeL 12 20 (v := ?_) hro (by kernel_rfl) (by kernel_rfl) (by kernel_rfl) rfl (by kernel_rfl) (by kernel_rfl) (fun _ _ _ h => h) (Or.inl ⟨by rfl, ?_⟩) (fun _ => rfl) (by assumption) ?_
    rotate_left
    ·(intro wq hSq; (try dsimp only at hSq); go_simp; try with_reducible rfl)
    try simp only [q0P, q0Q, q0R, q0S]
    refine wpAnyKC_takeL 13 20 (v := ?_) hro (by kernel_rfl) (by kernel_rfl) (by kernel_rfl) rfl (by kernel_rfl) (by kernel_rfl) (fun _ _ _ h => h) (Or.inl ⟨by rfl, ?_⟩) (fun _ => rfl) (by assumption) ?_
    rotate_left
    ·(intro wq hSq; (try dsimp only at hSq); go_simp; try with_reducible rfl)
    try simp only [q0P, q0Q, q0R, q0S]
    refine wpAnyKC_stepL 14 (by kernel_rfl) rfl (fun K hK => ?_)
    go_simp
    refine hK.out _ _ (fun h => by cases h) ?_
    clear hK K hS
    try simp only [q0P, q0Q, q0R, q0S]
    refine wpAnyKC_end (by kernel_rfl) ?_
    have hA4 : Hid (WrAt ((wr.setCell ⟨p, 3, none⟩ (.bool true)).drew) p b n x y ⟨si.h, si.fuse, true⟩) := (hWr.out.setFailed _).drew
    have hK4 : Hid (Kp (two p b) w ((wr.setCell ⟨p, 3, none⟩ (.bool true)).drew)) := (hKp.out.setCell (Or.inl rfl) _).drew
    generalize (wr.setCell ⟨p, 3, none⟩ (.bool true)).drew = w4 at hA4 hK4 ⊢
    clear k1 k2 e2 e3 f2 f3
    have k1 := hK4.out.cell N1.out H1.out
    have k2 := hK4.out.cell N2.out H2.out
    have q2 : w4.cell? ⟨p, 2, none⟩ = some (.int .i64 si.fuse) := (four_cells hA4.out.at_).2.2.1
    have q3 : w4.cell? ⟨p, 3, none⟩ = some (.bool true) := (four_cells hA4.out.at_).2.2.2.1
    have g2 : w4.frozen? ⟨p, 2, none⟩ = false := (four_cells hA4.out.at_).2.2.2.2.1
    gi_wp2
    refine bodyPost_ret (results_none rfl _ _ _) rfl ?_
    exact ⟨⟨_, rfl⟩, by rw [HRR.out]; exact hA4.out, hK4.out⟩
   ·obtain ⟨fu, hfu⟩ : ∃ f, f = si.fuse := ⟨_, rfl⟩
    have hfb : (fu == 0) = false := by rw [beq_eq_false_iff_ne, hfu]; exact hf0
    rw [← hfu] at e2
    have FU := Lib.hid hfu
    have HF0 := Lib.hid hf0
    have hst : r = putS ⟨si.h.set (k + i) c, if 0 < si.fuse then si.fuse - 1 else si.fuse, false⟩ (k + (i + 1)) (s.drop (i + 1)) := by
     rw [hR.out, HDR.out, putS_step (by rw [hfd]; simpa using hf0)]; rfl
    have HST := Lib.hid hst
    have fb1 := hWr.out.f1
    have fb2 := hWr.out.f2
    rw [← hfu] at fb1 fb2
    clear hfu hf0 hst
    gi_wp2_with fail
    refine wpIn_region_K (fun w' => w'.cell? ⟨c1, 0, none⟩ = some (.pointer (some ⟨p, 0, none⟩)) ∧ w'.cell? ⟨p, 3, none⟩ = some (.bool false) ∧ w'.cell? ⟨p, 2, none⟩ = some (.int .i64 fu) ∧ w'.frozen? ⟨p, 3, none⟩ = false) 14 (by kernel_rfl) ⟨k1, e3, e2, f3⟩ (fun hS => ?_)
    refine wpAnyKC_takeL 0 20 (v := ?_) hro (by kernel_rfl) (by kernel_rfl) (by kernel_rfl) rfl (by kernel_rfl) (by kernel_rfl) (fun _ _ _ h => h) (Or.inl ⟨by rfl, ?_⟩) (fun _ => rfl) (by assumption) ?_
    rotate_left
    ·(intro wq hSq; (try dsimp only at hSq); go_simp; try with_reducible rfl)
    try simp only [q0P, q0Q, q0R, q0S]
    refine wpAnyKC_takeL 1 20 (v := ?_) hro (by kernel_rfl) (by kernel_rfl) (by kernel_rfl) rfl (by kernel_rfl) (by kernel_rfl) (fun _ _ _ h => h) (Or.inl ⟨by rfl, ?_⟩) (fun _ => rfl) (by assumption) ?_
    rotate_left
    ·(intro wq hSq; (try dsimp only at hSq); go_simp; try with_reducible rfl)
    try simp only [q0P, q0Q, q0R, q0S]
    refine wpAnyKC_takeL 2 20 (v := ?_) hro (by kernel_rfl) (by kernel_rfl) (by kernel_rfl) rfl (by kernel_rfl) (by kernel_rfl) (fun _ _ _ h => h) (Or.inl ⟨by rfl, ?_⟩) (fun _ => rfl) (by assumption) ?_
    rotate_left
    ·(intro wq hSq; (try dsimp only at hSq); go_simp; try with_reducible rfl)
    try simp only [q0P, q0Q, q0R, q0S]
    refine wpAnyKC_takeL 3 20 (v := ?_) hro (by kernel_rfl) (by kernel_rfl) (by kernel_rfl) rfl (by kernel_rfl) (by kernel_rfl) (fun _ _ _ h => h) (Or.inl ⟨by rfl, ?_⟩) (fun _ => rfl) (by assumption) ?_
    rotate_left
    ·(intro wq hSq; (try dsimp only at hSq); go_simp; try with_reducible rfl)
    try simp only [q0P, q0Q, q0R, q0S]
    refine wpAnyKC_takeL 4 20 (v := ?_) hro (by kernel_rfl) (by kernel_rfl) (by kernel_rfl) rfl (by kernel_rfl) (by kernel_rfl) (fun _ _ _ h => h) (Or.inl ⟨by rfl, ?_⟩) (fun _ => rfl) (by assumption) ?_
    rotate_left
    ·(intro wq hSq; (try dsimp only at hSq); go_simp; try with_reducible rfl)
    try simp only [q0P, q0Q, q0R, q0S]
    refine wpAnyKC_takeL 5 20 (v := ?_) hro (by kernel_rfl) (by kernel_rfl) (by kernel_rfl) rfl (by kernel_rfl) (by kernel_rfl) (fun _ _ _ h => h) (Or.inl ⟨by rfl, ?_⟩) (fun _ => rfl) (by assumption) ?_
    rotate_left
    ·(intro wq hSq; (try dsimp only at hSq); go_simp; try with_reducible rfl)
    try simp only [q0P, q0Q, q0R, q0S]
    refine wpAnyKC_takeL 6 20 (v := ?_) hro (by kernel_rfl) (by kernel_rfl) (by kernel_rfl) rfl (by kernel_rfl) (by kernel_rfl) (fun _ _ _ h => h) (Or.inl ⟨by rfl, ?_⟩) (fun _ => rfl) (by assumption) ?_
    rotate_left
    ·(intro wq hSq; (try dsimp only at hSq); go_simp; try with_reducible rfl)
    try simp only [q0P, q0Q, q0R, q0S]
    refine wpAnyKC_takeL 7 20 (v := ?_) hro (by kernel_rfl) (by kernel_rfl) (by kernel_rfl) rfl (by kernel_rfl) (by kernel_rfl) (fun _ _ _ h => h) (Or.inl ⟨by rfl, ?_⟩) (fun _ => rfl) (by assumption) ?_
    rotate_left
    ·(intro wq hSq; (try dsimp only at hSq); go_simp; try with_reducible rfl)
    try simp only [q0P, q0Q, q0R, q0S]
    refine wpAnyKC_takeL 8 20 (v := ?_) hro (by kernel_rfl) (by kernel_rfl) (by kernel_rfl) rfl (by kernel_rfl) (by kernel_rfl) (fun _ _ _ h => h) (Or.inl ⟨by rfl, ?_⟩) (fun _ => rfl) (by assumption) ?_
    rotate_left
    ·(intro wq hSq; (try dsimp only at hSq); go_simp; try with_reducible rfl)
    try simp only [q0P, q0Q, q0R, q0S]
    refine wpAnyKC_takeL 9 20 (v := ?_) hro (by kernel_rfl) (by kernel_rfl) (by kernel_rfl) rfl (by kernel_rfl) (by kernel_rfl) (fun _ _ _ h => h) (Or.inl ⟨by rfl, ?_⟩) (fun _ => rfl) (by assumption) ?_
    rotate_left
    ·(intro wq hSq; (try dsimp only at hSq); go_simp; try with_reducible rfl)
    try simp only [q0P, q0Q, q0R, q0S]
    refine wpAnyKC_takeL 10 20 (v := ?_) hro (by kernel_rfl) (by kernel_rfl) (by kernel_rfl) rfl (by kernel_rfl) (by kernel_rfl) (fun _ _ _ h => h) (Or.inl ⟨by rfl, ?_⟩) (fun _ => rfl) (by assumption) ?_
    rotate_left
    ·(intro wq hSq; (try dsimp only at hSq); go_simp; try with_reducible rfl)
    try simp only [q0P, q0Q, q0R, q0S]
    refine wpAnyKC_takeL 11 20 (v := ?_) hro (by kernel_rfl) (by kernel_rfl) (by kernel_rfl) rfl (by kernel_rfl) (by kernel_rfl) (fun _ _ _ h => h) (Or.inl ⟨by rfl, ?_⟩) (fun _ => rfl) (by assumption) ?_
    rotate_left
    ·(intro wq hSq; (try dsimp only at hSq); go_simp; try with_reducible rfl)
    try simp only [q0P, q0Q, q0R, q0S]
    refine wpAnyKC_takeL 12 20 (v := ?_) hro (by kernel_rfl) (by kernel_rfl) (by kernel_rfl) rfl (by kernel_rfl) (by kernel_rfl) (fun _ _ _ h => h) (Or.inl ⟨by rfl, ?_⟩) (fun _ => rfl) (by assumption) ?_
    rotate_left
    ·(intro wq hSq; (try dsimp only at hSq); go_simp; try with_reducible rfl)
    try simp only [q0P, q0Q, q0R, q0S]
    refine wpAnyKC_takeL 13 20 (v := ?_) hro (by kernel_rfl) (by kernel_rfl) (by kernel_rfl) rfl (by kernel_rfl) (by kernel_rfl) (fun _ _ _ h => h) (Or.inl ⟨by rfl, ?_⟩) (fun _ => rfl) (by assumption) ?_
    rotate_left
    ·(intro wq hSq; (try dsimp only at hSq); go_simp; try with_reducible rfl)
    try simp only [q0P, q0Q, q0R, q0S]
    refine wpAnyKC_stepL 14 (by kernel_rfl) rfl (fun K hK => ?_)
    go_simp
    refine hK.out _ _ (fun h => by cases h) ?_
    clear hK K hS
    try simp only [q0P, q0Q, q0R, q0S]
    refine wpAnyKC_end (by kernel_rfl) ?_
    have hA4 : Hid (WrAt ((wr.setCell ⟨p, 3, none⟩ (.bool false)).drew) p b n x y ⟨si.h, si.fuse, false⟩) := (hWr.out.setFailed _).drew
    have hK4 : Hid (Kp (two p b) w ((wr.setCell ⟨p, 3, none⟩ (.bool false)).drew)) := (hKp.out.setCell (Or.inl rfl) _).drew
    generalize (wr.setCell ⟨p, 3, none⟩ (.bool false)).drew = w4 at hA4 hK4 ⊢
    clear k1 k2 e2 e3 f2 f3
    have k1 := hK4.out.cell N1.out H1.out
    have k2 := hK4.out.cell N2.out H2.out
    have q2 : w4.cell? ⟨p, 2, none⟩ = some (.int .i64 fu) := by rw [FU.out]; exact (four_cells hA4.out.at_).2.2.1
    have q3 : w4.cell? ⟨p, 3, none⟩ = some (.bool false) := (four_cells hA4.out.at_).2.2.2.1
    have g2 : w4.frozen? ⟨p, 2, none⟩ = false := (four_cells hA4.out.at_).2.2.2.2.1
    clear hWr hKp
    obtain ⟨j, hj⟩ : ∃ j, j = k + i := ⟨_, rfl⟩
    have hk3 : j < n := by omega
    have HJ := Lib.hid hj
    have hwi : IntKind.i64.wrap ((k : Int) + (i : Int)) = (j : Int) := by rw [IntWalk.i64_in _ ⟨by omega, by omega⟩]; omega
    clear hj
    have hsi : (bytesOf s)[i]'(by rw [hs]; exact hlt) = c := by
     have := HC.out
     rw [List.getElem?_eq_getElem (by omega)] at this
     injection this
    by_cases hp : 0 < fu
    ·have hw1 : IntKind.i64.wrap (fu - 1) = fu - 1 := IntWalk.i64_in _ ⟨by omega, by omega⟩
     gi_wp2_with fail
     have hA5 : Hid (WrAt (w4.setCell ⟨p, 2, none⟩ (.int .i64 (fu - 1))) p b n x y ⟨si.h, fu - 1, false⟩) := hA4.out.setFuse _ (by omega) (by omega)
     have hK5 : Hid (Kp (two p b) w (w4.setCell ⟨p, 2, none⟩ (.int .i64 (fu - 1)))) := hK4.out.setCell (Or.inl rfl) _
     generalize w4.setCell ⟨p, 2, none⟩ (.int .i64 (fu - 1)) = w5 at hA5 hK5 ⊢
     clear k1 k2 q2 q3 g2 hA4 hK4
     have k2 := hK5.out.cell N2.out H2.out
     obtain ⟨th, hth⟩ := hA5.out.half
     have hlh : si.h.length = n := hA5.out.len
     obtain ⟨b1, b2⟩ := half_cells hth j (by rw [hlh]; exact hk3)
     generalize si.h[j] = c0 at b1
     clear hth
     refine wpIn_region_K (fun w' => w'.cell? ⟨c2, 0, none⟩ = some (.slice (some ⟨b, 0, none⟩) n n) ∧ w'.cell? ⟨b, j, none⟩ = some (byteV c0) ∧ w'.frozen? ⟨b, j, none⟩ = false) 8 (by kernel_rfl) ⟨k2, b1, b2⟩ (fun hS => ?_)
     refine wpAnyKC_takeL 0 20 (v := ?_) hro (by kernel_rfl) (by kernel_rfl) (by kernel_rfl) rfl (by kernel_rfl) (by kernel_rfl) (fun _ _ _ h => h) (Or.inl ⟨by rfl, ?_⟩) (fun _ => rfl) (by assumption) ?_
     rotate_left
     ·(intro wq hSq; (try dsimp only at hSq); go_simp; try with_reducible rfl)
     try simp only [q0P, q0Q, q0R, q0S]
     refine wpAnyKC_takeL 1 20 (v := ?_) hro (by kernel_rfl) (by kernel_rfl) (by kernel_rfl) rfl (by kernel_rfl) (by kernel_rfl) (fun _ _ _ h => h) (Or.inl ⟨by rfl, ?_⟩) (fun _ => rfl) (by assumption) ?_
     rotate_left
     ·(intro wq hSq; (try dsimp only at hSq); go_simp; try with_reducible rfl)
     try simp only [q0P, q0Q, q0R, q0S]
     refine wpAnyKC_takeL 2 20 (v := ?_) hro (by kernel_rfl) (by kernel_rfl) (by kernel_rfl) rfl (by kernel_rfl) (by kernel_rfl) (fun _ _ _ h => h) (Or.inl ⟨by rfl, ?_⟩) (fun _ => rfl) (by assumption) ?_
     rotate_left
     ·(intro wq hSq; (try dsimp only at hSq); go_simp; try with_reducible rfl)
     try simp only [q0P, q0Q, q0R, q0S]
     refine wpAnyKC_takeL 3 20 (v := ?_) hro (by kernel_rfl) (by kernel_rfl) (by kernel_rfl) rfl (by kernel_rfl) (by kernel_rfl) (fun _ _ _ h => h) (Or.inl ⟨by rfl, ?_⟩) (fun _ => rfl) (by assumption) ?_
     rotate_left
     ·(intro wq hSq; (try dsimp only at hSq); go_simp; try with_reducible rfl)
     try simp only [q0P, q0Q, q0R, q0S]
     refine wpAnyKC_takeL 4 20 (v := ?_) hro (by kernel_rfl) (by kernel_rfl) (by kernel_rfl) rfl (by kernel_rfl) (by kernel_rfl) (fun _ _ _ h => h) (Or.inl ⟨by rfl, ?_⟩) (fun _ => rfl) (by assumption) ?_
     rotate_left
     ·(intro wq hSq; (try dsimp only at hSq); go_simp; try with_reducible rfl)
     try simp only [q0P, q0Q, q0R, q0S]
     refine wpAnyKC_takeL 5 20 (v := ?_) hro (by kernel_rfl) (by kernel_rfl) (by kernel_rfl) rfl (by kernel_rfl) (by kernel_rfl) (fun _ _ _ h => h) (Or.inl ⟨by rfl, ?_⟩) (fun _ => rfl) (by assumption) ?_
     rotate_left
     ·(intro wq hSq; (try dsimp only at hSq); go_simp; try with_reducible rfl)
     try simp only [q0P, q0Q, q0R, q0S]
     refine wpAnyKC_takeL 6 20 (v := ?_) hro (by kernel_rfl) (by kernel_rfl) (by kernel_rfl) rfl (by kernel_rfl) (by kernel_rfl) (fun _ _ _ h => h) (Or.inl ⟨by rfl, ?_⟩) (fun _ => rfl) (by assumption) ?_
     rotate_left
     ·(intro wq hSq; (try dsimp only at hSq); go_simp; try with_reducible rfl)
     try simp only [q0P, q0Q, q0R, q0S]
     refine wpAnyKC_takeL 7 20 (v := ?_) hro (by kernel_rfl) (by kernel_rfl) (by kernel_rfl) rfl (by kernel_rfl) (by kernel_rfl) (fun _ _ _ h => h) (Or.inl ⟨by rfl, ?_⟩) (fun _ => rfl) (by assumption) ?_
     rotate_left
     ·(intro wq hSq; (try dsimp only at hSq); go_simp; try with_reducible rfl)
     try simp only [q0P, q0Q, q0R, q0S]
     refine wpAnyKC_stepL 8 (by kernel_rfl) rfl (fun K hK => ?_)
     go_simp
     refine hK.out _ _ (fun h => by cases h) ?_
     clear hK K hS
     try simp only [q0P, q0Q, q0R, q0S]
     refine wpAnyKC_end (by kernel_rfl) ?_
     have hA6 : Hid (WrAt (w5.setCell ⟨b, j, none⟩ (byteV c)).drew p b n x y ⟨si.h.set j c, fu - 1, false⟩) := (hA5.out.setByte _ _).drew
     have hK6 : Hid (Kp (two p b) w (w5.setCell ⟨b, j, none⟩ (byteV c)).drew) := (hK5.out.setCell (Or.inr rfl) _).drew
     try rw [hsi]
     generalize (w5.setCell ⟨b, j, none⟩ (byteV c)).drew = w6 at hA6 hK6 ⊢
     clear b1 b2 k2
     gi_wp2
     go_roundw
     case rel =>
      refine ⟨i + 1, ⟨si.h.set j c, fu - 1, false⟩, by omega, by go_num, ?_, hA6.out, hK6.out⟩
      show _ = _
      rw [HST.out, ← HJ.out]
      rw [← FU.out, if_pos hp]
     case measure => simp [intOf]; omega
    ·gi_wp2_with fail
     obtain ⟨th, hth⟩ := hA4.out.half
     have hlh : si.h.length = n := hA4.out.len
     obtain ⟨b1, b2⟩ := half_cells hth j (by rw [hlh]; exact hk3)
     generalize si.h[j] = c0 at b1
     clear hth
     refine wpIn_region_K (fun w' => w'.cell? ⟨c2, 0, none⟩ = some (.slice (some ⟨b, 0, none⟩) n n) ∧ w'.cell? ⟨b, j, none⟩ = some (byteV c0) ∧ w'.frozen? ⟨b, j, none⟩ = false) 8 (by kernel_rfl) ⟨k2, b1, b2⟩ (fun hS => ?_)
     refine wpAnyKC_takeL 0 20 (v := ?_) hro (by kernel_rfl) (by kernel_rfl) (by kernel_rfl) rfl (by kernel_rfl) (by kernel_rfl) (fun _ _ _ h => h) (Or.inl ⟨by rfl, ?_⟩) (fun _ => rfl) (by assumption) ?_
     rotate_left
     ·(intro wq hSq; (try dsimp only at hSq); go_simp; try with_reducible rfl)
     try simp only [q0P, q0Q, q0R, q0S]
     refine wpAnyKC_takeL 1 20 (v := ?_) hro (by kernel_rfl) (by kernel_rfl) (by kernel_rfl) rfl (by kernel_rfl) (by kernel_rfl) (fun _ _ _ h => h) (Or.inl ⟨by rfl, ?_⟩) (fun _ => rfl) (by assumption) ?_
     rotate_left
     ·(intro wq hSq; (try dsimp only at hSq); go_simp; try with_reducible rfl)
     try simp only [q0P, q0Q, q0R, q0S]
     refine wpAnyKC_takeL 2 20 (v := ?_) hro (by kernel_rfl) (by kernel_rfl) (by kernel_rfl) rfl (by kernel_rfl) (by kernel_rfl) (fun _ _ _ h => h) (Or.inl ⟨by rfl, ?_⟩) (fun _ => rfl) (by assumption) ?_
     rotate_left
     ·(intro wq hSq; (try dsimp only at hSq); go_simp; try with_reducible rfl)
     try simp only [q0P, q0Q, q0R, q0S]
     refine wpAnyKC_takeL 3 20 (v := ?_) hro (by kernel_rfl) (by kernel_rfl) (by kernel_rfl) rfl (by kernel_rfl) (by kernel_rfl) (fun _ _ _ h => h) (Or.inl ⟨by rfl, ?_⟩) (fun _ => rfl) (by assumption) ?_
     rotate_left
     ·(intro wq hSq; (try dsimp only at hSq); go_simp; try with_reducible rfl)
     try simp only [q0P, q0Q, q0R, q0S]
     refine wpAnyKC_takeL 4 20 (v := ?_) hro (by kernel_rfl) (by kernel_rfl) (by kernel_rfl) rfl (by kernel_rfl) (by kernel_rfl) (fun _ _ _ h => h) (Or.inl ⟨by rfl, ?_⟩) (fun _ => rfl) (by assumption) ?_
     rotate_left
     ·(intro wq hSq; (try dsimp only at hSq); go_simp; try with_reducible rfl)
     try simp only [q0P, q0Q, q0R, q0S]
     refine wpAnyKC_takeL 5 20 (v := ?_) hro (by kernel_rfl) (by kernel_rfl) (by kernel_rfl) rfl (by kernel_rfl) (by kernel_rfl) (fun _ _ _ h => h) (Or.inl ⟨by rfl, ?_⟩) (fun _ => rfl) (by assumption) ?_
     rotate_left
     ·(intro wq hSq; (try dsimp only at hSq); go_simp; try with_reducible rfl)
     try simp only [q0P, q0Q, q0R, q0S]
     refine wpAnyKC_takeL 6 20 (v := ?_) hro (by kernel_rfl) (by kernel_rfl) (by kernel_rfl) rfl (by kernel_rfl) (by kernel_rfl) (fun _ _ _ h => h) (Or.inl ⟨by rfl, ?_⟩) (fun _ => rfl) (by assumption) ?_
     rotate_left
     ·(intro wq hSq; (try dsimp only at hSq); go_simp; try with_reducible rfl)
     try simp only [q0P, q0Q, q0R, q0S]
     refine wpAnyKC_takeL 7 20 (v := ?_) hro (by kernel_rfl) (by kernel_rfl) (by kernel_rfl) rfl (by kernel_rfl) (by kernel_rfl) (fun _ _ _ h => h) (Or.inl ⟨by rfl, ?_⟩) (fun _ => rfl) (by assumption) ?_
     rotate_left
     ·(intro wq hSq; (try dsimp only at hSq); go_simp; try with_reducible rfl)
     try simp only [q0P, q0Q, q0R, q0S]
     refine wpAnyKC_stepL 8 (by kernel_rfl) rfl (fun K hK => ?_)
     go_simp
     refine hK.out _ _ (fun h => by cases h) ?_
     clear hK K hS
     try simp only [q0P, q0Q, q0R, q0S]
     refine wpAnyKC_end (by kernel_rfl) ?_
     have hA6 : Hid (WrAt (w4.setCell ⟨b, j, none⟩ (byteV c)).drew p b n x y ⟨si.h.set j c, si.fuse, false⟩) := (hA4.out.setByte _ _).drew
     have hK6 : Hid (Kp (two p b) w (w4.setCell ⟨b, j, none⟩ (byteV c)).drew) := (hK4.out.setCell (Or.inr rfl) _).drew
     try rw [hsi]
     generalize (w4.setCell ⟨b, j, none⟩ (byteV c)).drew = w6 at hA6 hK6 ⊢
     clear b1 b2 k2
     gi_wp2
     go_roundw
     case rel =>
      refine ⟨i + 1, ⟨si.h.set j c, si.fuse, false⟩, by omega, by go_num, ?_, hA6.out, hK6.out⟩
      show _ = _
      rw [HST.out, ← HJ.out]
      rw [← FU.out, if_neg (by omega)]
     case measure => simp [intOf]; omega
end
/- Walks: a disk: its smaller methods. -/
section
open Go.RowKit Go.Shelf
theorem writer_any (p b n : Nat) (w : World) :
  Calls Tryz.prog 87 #[.pointer (some ⟨p, 0, none⟩), .slice (some ⟨b, 0, none⟩) n n] w fun e w' => e = .returned (.func (.func 113) #[] #[.pointer (some ⟨w.heap.size, 0, none⟩), .pointer (some ⟨w.heap.size + 1, 0, none⟩)]) ∧
   w' = (w.alloc (.cells #[.pointer (some ⟨p, 0, none⟩)] 26)).alloc (.cells #[.slice (some ⟨b, 0, none⟩) n n] 54) := by
 go_enter Tryz.func87, Tryz.ntmps87
 go_wp2
 go_ret
 exact ⟨rfl, rfl⟩
theorem result_any (p b0 b1 : Nat) (d : Dk) (w : World) (hd : DiskAt w p b0 b1 d) :
  Calls Tryz.prog 89 #[.pointer (some ⟨p, 0, none⟩)] w fun e w' => e = .returned (.int .i64 (if d.failed = true then 9 else 0)) ∧ w = w' := by
 obtain ⟨-, -, -, k3, -, -⟩ := four_cells hd.at_
 cases hf : d.failed
 ·rw [hf] at k3
  go_enter Tryz.func89, Tryz.ntmps89
  go_wp2
  go_ret
  exact ⟨rfl, rfl⟩
 ·rw [hf] at k3
  go_enter Tryz.func89, Tryz.ntmps89
  go_wp2
  go_ret
  exact ⟨rfl, rfl⟩
/-! ### Failed, Fuse, Restart -/
def Dk.fused (d : Dk) (n : Int) : Int × Dk := if n < -1 then (2, d) else (0, { d with fuse := n })
theorem Fuse_any (p b0 b1 : Nat) (d : Dk) (n : Int) (w : World) (hd : DiskAt w p b0 b1 d) :
  Calls Tryz.prog 39 #[.pointer (some ⟨p, 0, none⟩), .int .i64 n] w fun e w' => e = .returned (.int .i64 (d.fused n).1) ∧ DiskAt w' p b0 b1 (d.fused n).2 ∧ Kp (three p b0 b1) w w' := by
 obtain ⟨k0, -, k2, -, f2, -⟩ := four_cells hd.at_
 have HNO := Lib.hid (none_no p b0 d.size d.size w k0)
 have HD := Lib.hid hd
 clear hd
 by_cases hn : n < -1
 ·have h1 : d.fused n = (2, d) := if_pos hn
  rw [h1]
  go_enter Tryz.func39, Tryz.ntmps39
  go_wp2_with fail
  refine HNO.out.mono ?_
  rintro e w1 ⟨rfl, rfl⟩
  go_wp2
  go_ret
  exact ⟨rfl, HD.out, Kp.refl _ _⟩
 ·have h1 : d.fused n = (0, { d with fuse := n }) := if_neg hn
  rw [h1]
  go_enter Tryz.func39, Tryz.ntmps39
  go_wp2_with fail
  refine HNO.out.mono ?_
  rintro e w1 ⟨rfl, rfl⟩
  go_wp2
  go_ret
  refine ⟨rfl, ⟨?_, ?_, ?_, HD.out.n01, HD.out.n0, HD.out.n1⟩, (Kp.refl _ w).setCell (Or.inl rfl) _⟩
  ·simp [World.setCell, Array.getElem?_modify, HD.out.at_]
  ·obtain ⟨t, ht⟩ := HD.out.a0; exact ⟨t, (Below.heap_setCell w ⟨p, 2, none⟩ _ b0 HD.out.n0).trans ht⟩
  ·obtain ⟨t, ht⟩ := HD.out.a1; exact ⟨t, (Below.heap_setCell w ⟨p, 2, none⟩ _ b1 HD.out.n1).trans ht⟩
theorem Restart_any (p b0 b1 : Nat) (d : Dk) (w : World) (hd : DiskAt w p b0 b1 d) :
  Calls Tryz.prog 22 #[.pointer (some ⟨p, 0, none⟩)] w fun e w' => (∃ v, e = .returned v) ∧ DiskAt w' p b0 b1 { d with fuse := -1, failed := false } ∧ Kp (three p b0 b1) w w' := by
 obtain ⟨k0, -, k2, k3, f2, f3⟩ := four_cells hd.at_
 have HNO := Lib.hid (none_no p b0 d.size d.size w k0)
 have HD := Lib.hid hd
 clear hd
 go_enter Tryz.func22, Tryz.ntmps22
 go_wp2_with fail
 refine HNO.out.mono ?_
 rintro e w1 ⟨rfl, rfl⟩
 go_wp2
 go_end0
 refine ⟨⟨_, rfl⟩, ⟨?_, ?_, ?_, HD.out.n01, HD.out.n0, HD.out.n1⟩, ((Kp.refl _ w).setCell (Or.inl rfl) _).setCell (Or.inl rfl) _⟩
 ·simp [World.setCell, Array.getElem?_modify, HD.out.at_]
 ·obtain ⟨t, ht⟩ := HD.out.a0; exact ⟨t, ((Below.heap_setCell _ ⟨p, 3, none⟩ _ b0 HD.out.n0).trans (Below.heap_setCell w ⟨p, 2, none⟩ _ b0 HD.out.n0)).trans ht⟩
 ·obtain ⟨t, ht⟩ := HD.out.a1; exact ⟨t, ((Below.heap_setCell _ ⟨p, 3, none⟩ _ b1 HD.out.n1).trans (Below.heap_setCell w ⟨p, 2, none⟩ _ b1 HD.out.n1)).trans ht⟩
end
/- Walks: a disk: its size. -/
section
open Go.RowKit Go.Shelf
def Dk.used (d : Dk) : Nat := if d.half < 0 then 0 else endR d.act d.gen
end
/- Walks: a disk: a new one. -/
section
open Go.RowKit Go.Shelf
def zrow8 (n : Nat) : Array Value := ((List.replicate n (0 : UInt8)).map byteV).toArray
theorem infoByte : (Tryz.prog.info? 5).map (fun i => (i.zero, i.size, i.bytes)) = some (some (.int .u8 0), 1, 1) := by kernel_rfl
theorem make_u8 (l n : Nat) (hl : l ≤ n) (hn : n ≤ 1000000) (W : World) : (Instr.makeSlice 54 (.int .i64 (l : Int)) (.int .i64 (n : Int))).run Tryz.prog W = .ok (.slice (some ⟨W.heap.size, 0, none⟩) l n) (W.alloc (.cells (zrow8 n) 5)) := by
 obtain ⟨i0, hi, hz, h1, h2⟩ := info_parts infoByte
 have := run_make (P := Tryz.prog) W 54 5 i0 (.int .u8 0) Tryz.underlying54 hi hz .i64 .i64 (l : Int) (n : Int) (by omega) (by omega) (by rw [h2]; omega) (by omega)
 simp only [Int.toNat_natCast, h1] at this
 rw [this]
 have hz : madeCells (Value.int IntKind.u8 0).cells (n * 1) = zrow8 n := by
  unfold madeCells zrow8
  apply Array.ext
  ·simp
  ·intro i h1 h2
   have : (Value.int IntKind.u8 0).cells = #[.int .u8 0] := rfl
   simp [this, Nat.mod_one, byteV]
 rw [hz]
/-- 'copy(dst, s)' from a string, into a half. -/
theorem step_copy_half {ops : Array Oper} {o : Oper} {a : Act} {w : World} {K : Act → World → Prop} {Q : Exit → Act → World → Prop} {E : Prop}
  (hg : o.guard = none) (d x : Operand) (sT : TypeId) (hop : o.op = Op.call { callee := Callee.builtin Builtin.copy, args := #[d, x], argTypes := #[54, sT] })
  (b n : Nat) (h s : List UInt8) (hd : a.eval d = .slice (some ⟨b, 0, none⟩) n n) (hx : a.eval x = .string (bytesOf s)) (hh : w.heap[b]? = some (.cells (h.map byteV).toArray 5)) (hn : h.length = n) (hle : s.length ≤ n)
  (hK : ∀ w', w'.heap[b]? = some (.cells ((s ++ h.drop s.length).map byteV).toArray 5) → Kp (fun k => k = b) w w' → K (a.put o.dst (goInt s.length)) w') :
  if Region.wanted o (yielded ops a.tmps) = true then Oper.wp Tryz.prog o a w K Q else E := by
 have hw : Region.wanted o (yielded ops a.tmps) = true := by simp [Region.wanted, hg]
 rw [if_pos hw]
 obtain ⟨i0, hi, hz, h1, h2⟩ := info_parts infoByte
 have hsz : (bytesOf s).size = s.length := rfl
 have hrun := Lib.run_copy_row_string (P := Tryz.prog) w 54 sT o.type 5 b 0 n n (bytesOf s) (h.map byteV).toArray 5 Tryz.underlying54 (by rw [hi]; simp [h1]) hh (by rw [hsz]; exact hle) (by rw [hsz]; simp; omega)
 unfold Oper.wp
 simp [execOp, hop, resolve, invoke, builtin, hd, hx, hrun, Result.andThen]
 rw [hsz]
 have hbc : Lib.byteCells s = s.map byteV := rfl
 refine hK _ ?_ ⟨rfl, rfl, rfl, by simp [World.setRow], fun k _ hk => ?_⟩
 ·rw [setRow_heap w b _ _ _ _ hh]
  simp [bytesOf, Lib.byteCells, byteV, List.map_append, List.map_drop]
 ·exact setRow_other w b k _ (fun e => hk e)
def newHead : List UInt8 := 1 :: (eightL 1 ++ shortL (eightL 1))
theorem newHead_length : newHead.length = 17 := by unfold newHead; rw [List.length_cons, List.length_append, eightL_length, shortL_length]
def newDk (n : Nat) : Dk := ⟨n, newHead ++ List.replicate (n - 17) 0, List.replicate n 0, -1, false⟩
theorem New_any (n : Nat) (h64 : 64 ≤ n) (hmx : n ≤ 262144) (w : World) : Calls Tryz.prog 7 #[.int .i64 (n : Int)] w fun e w' =>
  (∃ p b0 b1, e = .returned (.tuple #[.pointer (some ⟨p, 0, none⟩), .int .i64 0]) ∧ DiskAt w' p b0 b1 (newDk n) ∧ w.heap.size ≤ p ∧ w.heap.size ≤ b0 ∧ w.heap.size ≤ b1) ∧ Below w.heap.size w w' := by
 have hmk : ∀ W : World, (Instr.makeSlice 54 (.int .i64 (n : Int)) (.int .i64 (n : Int))).run Tryz.prog W = .ok (.slice (some ⟨W.heap.size, 0, none⟩) n n) (W.alloc (.cells (zrow8 n) 5)) := fun W => make_u8 n n (Nat.le_refl _) (by omega) W
 go_enter Tryz.func7, Tryz.ntmps7
 go_upto_region 3 with (fail)
 go_region
 ·obtain ⟨W2, hW2e⟩ : ∃ W2, W2 = (((w.alloc (.cells (zrow8 n) 5)).alloc (.cells (zrow8 n) 5)).alloc (.cells #[.slice (some ⟨w.heap.size, 0, none⟩) n n, .slice (some ⟨w.heap.size + 1, 0, none⟩) n n, .int .i64 (-1), .bool false] 57)).drew := ⟨_, rfl⟩
  have hB2 : Below w.heap.size w W2 := by rw [hW2e]; exact ((((Below.refl _ w).alloc (Nat.le_refl _) _).alloc (by simp) _).alloc (by simp; omega) _).drew
  have g2 : W2.heap[w.heap.size + 2]? = some (.cells #[.slice (some ⟨w.heap.size, 0, none⟩) n n, .slice (some ⟨w.heap.size + 1, 0, none⟩) n n, .int .i64 (-1), .bool false] 57) := by
   rw [hW2e]; exact alloc_last _ _ (by simp)
  have ga : W2.heap[w.heap.size]? = some (.cells (zrow8 n) 5) := by
   rw [hW2e]; show (((w.alloc _).alloc _).alloc _).heap[_]? = _
   rw [Below.heap_alloc _ _ _ (by simp; omega), Below.heap_alloc _ _ _ (by simp)]; exact alloc_last _ _ rfl
  have gb : W2.heap[w.heap.size + 1]? = some (.cells (zrow8 n) 5) := by
   rw [hW2e]; show (((w.alloc _).alloc _).alloc _).heap[_]? = _
   rw [Below.heap_alloc _ _ _ (by simp)]; exact alloc_last _ _ (by simp)
  rw [← hW2e]
  clear hW2e
  obtain ⟨p, hp⟩ : ∃ p, p = w.heap.size + 2 := ⟨_, rfl⟩
  obtain ⟨b0, hb0⟩ : ∃ p, p = w.heap.size := ⟨_, rfl⟩
  obtain ⟨b1, hb1⟩ : ∃ p, p = w.heap.size + 1 := ⟨_, rfl⟩
  try rw [show w.heap.size + 1 + 1 = p by omega]
  rw [← hp] at g2
  rw [← hb1, ← hb0] at g2
  rw [← hb0] at ga
  rw [← hb1] at gb
  have hl2 : p < W2.heap.size := lt_of_heap g2
  have hd0 : b0 < W2.heap.size := by omega
  have hd1 : b1 < W2.heap.size := by omega
  have k0 := (four_cells g2).1
  have HP := Lib.hid hp
  have HB0 := Lib.hid hb0
  have HB1 := Lib.hid hb1
  clear hp hb0 hb1
  go_wp2_with fail
  refine wp_region_heldL (fun w' => w'.cell? ⟨p, 0, none⟩ = some (.slice (some ⟨b0, 0, none⟩) n n)) (by kernel_rfl) k0 (fun hS => ?_)
  refine tkH 0 (v := ?_) rfl ?_ ?_
  rotate_left
  ·(intro wq hSq; (try dsimp only at hSq); go_simp; try with_reducible rfl)
  try simp only [q0P, q0Q, q0R, q0S]
  refine tkH 1 (v := ?_) rfl ?_ ?_
  rotate_left
  ·(intro wq hSq; (try dsimp only at hSq); go_simp; try with_reducible rfl)
  try simp only [q0P, q0Q, q0R, q0S]
  refine tkH 2 (v := ?_) rfl ?_ ?_
  rotate_left
  ·(intro wq hSq; (try dsimp only at hSq); go_simp; try with_reducible rfl)
  try simp only [q0P, q0Q, q0R, q0S]
  refine tkH 3 (v := ?_) rfl ?_ ?_
  rotate_left
  ·(intro wq hSq; (try dsimp only at hSq); go_simp; try with_reducible rfl)
  try simp only [q0P, q0Q, q0R, q0S]
  refine tkH 4 (v := ?_) rfl ?_ ?_
  rotate_left
  ·(intro wq hSq; (try dsimp only at hSq); go_simp; try with_reducible rfl)
  try simp only [q0P, q0Q, q0R, q0S]
  refine wpAnyH_stepL 5 (by kernel_rfl) rfl (fun K hK => ?_)
  go_simp
  go_at_call 18
  refine (eightN_any 1 (by omega) _).mono ?_
  rintro e w3 ⟨rfl, hb3d⟩
  have hb3 : Below W2.heap.size W2 w3 := ((Below.refl _ W2).drew).trans hb3d
  refine hK.out _ _ ((hb3.cell (p := ⟨p, 0, none⟩) hl2).trans k0) (fun hS3 => ?_)
  clear hK K hS
  try simp only [q0P, q0Q, q0R, q0S]
  have a3 := bytesOf_append
  have x1 : (bytesOf (1 :: eightL 1)).size = 9 := by show (1 :: eightL 1).length = 9; rw [List.length_cons, eightL_length]
  have x0 : (⟨#[1]⟩ : ByteArray) ++ bytesOf (eightL 1) = bytesOf (1 :: eightL 1) := bytesOf_append [1] _
  have x2 : (⟨#[1]⟩ : ByteArray).size = 1 := rfl
  have x3 : (bytesOf (eightL 1)).size = 8 := eight_size 1
  refine tkH 6 (v := ?_) rfl ?_ ?_
  rotate_left
  ·(intro wq hSq; (try dsimp only at hSq); go_simp; try with_reducible rfl)
  try simp only [q0P, q0Q, q0R, q0S]
  refine wpAnyH_stepL 7 (by kernel_rfl) rfl (fun K hK => ?_)
  go_simp
  go_at_call 18
  refine (eightN_any 1 (by omega) _).mono ?_
  rintro e w4 ⟨rfl, hb4d⟩
  have hb4 : Below W2.heap.size W2 w4 := hb3.trans (hb4d.mono hb3.size)
  refine hK.out _ _ ((hb4.cell (p := ⟨p, 0, none⟩) hl2).trans k0) (fun hS4 => ?_)
  clear hK K hS3
  try simp only [q0P, q0Q, q0R, q0S]
  refine wpAnyH_stepL 8 (by kernel_rfl) rfl (fun K hK => ?_)
  go_simp
  go_at_call 19
  refine (shortN_any (eightL 1) (by rw [eightL_length]; omega) _).mono ?_
  rintro e w5 ⟨rfl, hb5d⟩
  have hb5 : Below W2.heap.size W2 w5 := hb4.trans (hb5d.mono hb4.size)
  refine hK.out _ _ ((hb5.cell (p := ⟨p, 0, none⟩) hl2).trans k0) (fun hS5 => ?_)
  clear hK K hS4
  try simp only [q0P, q0Q, q0R, q0S]
  have x4 : (bytesOf (shortL (eightL 1))).size = 8 := shortL_length _
  refine tkH 9 (v := ?_) rfl ?_ ?_
  rotate_left
  ·(intro wq hSq; (try dsimp only at hSq); go_simp; try with_reducible rfl)
  try simp only [q0P, q0Q, q0R, q0S]
  refine wpAnyH_stepL 10 (by kernel_rfl) rfl (fun K hK => ?_)
  refine step_copy_half rfl (.tmp 22) (.tmp 27) 9 rfl b0 n (List.replicate n 0) newHead rfl rfl ((hb5.block _ hd0).trans ga) (by simp) (by rw [newHead_length]; omega) ?_
  intro w6 hg6 hk6
  have hn02 : ¬ p = b0 := by have := HP.out; have := HB0.out; omega
  have hn12 : ¬ b1 = b0 := by have := HB1.out; have := HB0.out; omega
  have hn13 : ¬ b1 = p := by have := HP.out; have := HB1.out; omega
  have q2 : w6.heap[p]? = some (.cells #[.slice (some ⟨b0, 0, none⟩) n n, .slice (some ⟨b1, 0, none⟩) n n, .int .i64 (-1), .bool false] 57) := (hk6.block _ (Nat.lt_of_lt_of_le hl2 hb5.size) hn02).trans ((hb5.block _ hl2).trans g2)
  have q1 : w6.heap[b1]? = some (.cells (zrow8 n) 5) := (hk6.block _ (Nat.lt_of_lt_of_le hd1 hb5.size) hn12).trans ((hb5.block _ hd1).trans gb)
  have hB6 : Below w.heap.size w w6 := (hB2.trans (hb5.mono hB2.size)).trans (hk6.below (by have := hB2.size; have := hb5.size; omega) (fun k e => by have := HB0.out; subst e; omega))
  refine hK.out _ _ (four_cells q2).1 (fun hS6 => ?_)
  clear hK K hS5
  try simp only [q0P, q0Q, q0R, q0S]
  refine wpAnyH_end (by kernel_rfl) ?_
  have HB6 := Lib.hid hB6
  clear k0 ga gb g2 hB2 hb3d hb4d hb5d hb3 hb4 hb5 hk6 hB6
  go_wp2
  go_ret2
  refine ⟨⟨p, b0, b1, rfl, ⟨q2, ⟨5, ?_⟩, ⟨5, q1⟩, Ne.symm hn12, Ne.symm hn02, hn13⟩, by have := HP.out; omega, by have := HB0.out; omega, by have := HB1.out; omega⟩, HB6.out⟩
  rw [hg6, newHead_length, List.drop_replicate]
  rfl
 ·obtain ⟨W2, hW2e⟩ : ∃ W2, W2 = (((w.alloc (.cells (zrow8 n) 5)).alloc (.cells (zrow8 n) 5)).alloc (.cells #[.slice (some ⟨w.heap.size + 1, 0, none⟩) n n, .slice (some ⟨w.heap.size, 0, none⟩) n n, .int .i64 (-1), .bool false] 57)).drew := ⟨_, rfl⟩
  have hB2 : Below w.heap.size w W2 := by rw [hW2e]; exact ((((Below.refl _ w).alloc (Nat.le_refl _) _).alloc (by simp) _).alloc (by simp; omega) _).drew
  have g2 : W2.heap[w.heap.size + 2]? = some (.cells #[.slice (some ⟨w.heap.size + 1, 0, none⟩) n n, .slice (some ⟨w.heap.size, 0, none⟩) n n, .int .i64 (-1), .bool false] 57) := by
   rw [hW2e]; exact alloc_last _ _ (by simp)
  have ga : W2.heap[w.heap.size]? = some (.cells (zrow8 n) 5) := by
   rw [hW2e]; show (((w.alloc _).alloc _).alloc _).heap[_]? = _
   rw [Below.heap_alloc _ _ _ (by simp; omega), Below.heap_alloc _ _ _ (by simp)]; exact alloc_last _ _ rfl
  have gb : W2.heap[w.heap.size + 1]? = some (.cells (zrow8 n) 5) := by
   rw [hW2e]; show (((w.alloc _).alloc _).alloc _).heap[_]? = _
   rw [Below.heap_alloc _ _ _ (by simp)]; exact alloc_last _ _ (by simp)
  rw [← hW2e]
  clear hW2e
  obtain ⟨p, hp⟩ : ∃ p, p = w.heap.size + 2 := ⟨_, rfl⟩
  obtain ⟨b0, hb0⟩ : ∃ p, p = w.heap.size + 1 := ⟨_, rfl⟩
  obtain ⟨b1, hb1⟩ : ∃ p, p = w.heap.size := ⟨_, rfl⟩
  try rw [show w.heap.size + 1 + 1 = p by omega]
  rw [← hp] at g2
  rw [← hb0, ← hb1] at g2
  rw [← hb1] at ga
  rw [← hb0] at gb
  have hl2 : p < W2.heap.size := lt_of_heap g2
  have hd0 : b0 < W2.heap.size := by omega
  have hd1 : b1 < W2.heap.size := by omega
  have k0 := (four_cells g2).1
  have HP := Lib.hid hp
  have HB0 := Lib.hid hb0
  have HB1 := Lib.hid hb1
  clear hp hb0 hb1
  go_wp2_with fail
  refine wp_region_heldL (fun w' => w'.cell? ⟨p, 0, none⟩ = some (.slice (some ⟨b0, 0, none⟩) n n)) (by kernel_rfl) k0 (fun hS => ?_)
  refine tkH 0 (v := ?_) rfl ?_ ?_
  rotate_left
  ·(intro wq hSq; (try dsimp only at hSq); go_simp; try with_reducible rfl)
  try simp only [q0P, q0Q, q0R, q0S]
  refine tkH 1 (v := ?_) rfl ?_ ?_
  rotate_left
  ·(intro wq hSq; (try dsimp only at hSq); go_simp; try with_reducible rfl)
  try simp only [q0P, q0Q, q0R, q0S]
  refine tkH 2 (v := ?_) rfl ?_ ?_
  rotate_left
  ·(intro wq hSq; (try dsimp only at hSq); go_simp; try with_reducible rfl)
  try simp only [q0P, q0Q, q0R, q0S]
  refine tkH 3 (v := ?_) rfl ?_ ?_
  rotate_left
  ·(intro wq hSq; (try dsimp only at hSq); go_simp; try with_reducible rfl)
  try simp only [q0P, q0Q, q0R, q0S]
  refine tkH 4 (v := ?_) rfl ?_ ?_
  rotate_left
  ·(intro wq hSq; (try dsimp only at hSq); go_simp; try with_reducible rfl)
  try simp only [q0P, q0Q, q0R, q0S]
  refine wpAnyH_stepL 5 (by kernel_rfl) rfl (fun K hK => ?_)
  go_simp
  go_at_call 18
  refine (eightN_any 1 (by omega) _).mono ?_
  rintro e w3 ⟨rfl, hb3d⟩
  have hb3 : Below W2.heap.size W2 w3 := ((Below.refl _ W2).drew).trans hb3d
  refine hK.out _ _ ((hb3.cell (p := ⟨p, 0, none⟩) hl2).trans k0) (fun hS3 => ?_)
  clear hK K hS
  try simp only [q0P, q0Q, q0R, q0S]
  have a3 := bytesOf_append
  have x1 : (bytesOf (1 :: eightL 1)).size = 9 := by show (1 :: eightL 1).length = 9; rw [List.length_cons, eightL_length]
  have x0 : (⟨#[1]⟩ : ByteArray) ++ bytesOf (eightL 1) = bytesOf (1 :: eightL 1) := bytesOf_append [1] _
  have x2 : (⟨#[1]⟩ : ByteArray).size = 1 := rfl
  have x3 : (bytesOf (eightL 1)).size = 8 := eight_size 1
  refine tkH 6 (v := ?_) rfl ?_ ?_
  rotate_left
  ·(intro wq hSq; (try dsimp only at hSq); go_simp; try with_reducible rfl)
  try simp only [q0P, q0Q, q0R, q0S]
  refine wpAnyH_stepL 7 (by kernel_rfl) rfl (fun K hK => ?_)
  go_simp
  go_at_call 18
  refine (eightN_any 1 (by omega) _).mono ?_
  rintro e w4 ⟨rfl, hb4d⟩
  have hb4 : Below W2.heap.size W2 w4 := hb3.trans (hb4d.mono hb3.size)
  refine hK.out _ _ ((hb4.cell (p := ⟨p, 0, none⟩) hl2).trans k0) (fun hS4 => ?_)
  clear hK K hS3
  try simp only [q0P, q0Q, q0R, q0S]
  refine wpAnyH_stepL 8 (by kernel_rfl) rfl (fun K hK => ?_)
  go_simp
  go_at_call 19
  refine (shortN_any (eightL 1) (by rw [eightL_length]; omega) _).mono ?_
  rintro e w5 ⟨rfl, hb5d⟩
  have hb5 : Below W2.heap.size W2 w5 := hb4.trans (hb5d.mono hb4.size)
  refine hK.out _ _ ((hb5.cell (p := ⟨p, 0, none⟩) hl2).trans k0) (fun hS5 => ?_)
  clear hK K hS4
  try simp only [q0P, q0Q, q0R, q0S]
  have x4 : (bytesOf (shortL (eightL 1))).size = 8 := shortL_length _
  refine tkH 9 (v := ?_) rfl ?_ ?_
  rotate_left
  ·(intro wq hSq; (try dsimp only at hSq); go_simp; try with_reducible rfl)
  try simp only [q0P, q0Q, q0R, q0S]
  refine wpAnyH_stepL 10 (by kernel_rfl) rfl (fun K hK => ?_)
  refine step_copy_half rfl (.tmp 22) (.tmp 27) 9 rfl b0 n (List.replicate n 0) newHead rfl rfl ((hb5.block _ hd0).trans gb) (by simp) (by rw [newHead_length]; omega) ?_
  intro w6 hg6 hk6
  have hn02 : ¬ p = b0 := by have := HP.out; have := HB0.out; omega
  have hn12 : ¬ b1 = b0 := by have := HB1.out; have := HB0.out; omega
  have hn13 : ¬ b1 = p := by have := HP.out; have := HB1.out; omega
  have q2 : w6.heap[p]? = some (.cells #[.slice (some ⟨b0, 0, none⟩) n n, .slice (some ⟨b1, 0, none⟩) n n, .int .i64 (-1), .bool false] 57) := (hk6.block _ (Nat.lt_of_lt_of_le hl2 hb5.size) hn02).trans ((hb5.block _ hl2).trans g2)
  have q1 : w6.heap[b1]? = some (.cells (zrow8 n) 5) := (hk6.block _ (Nat.lt_of_lt_of_le hd1 hb5.size) hn12).trans ((hb5.block _ hd1).trans ga)
  have hB6 : Below w.heap.size w w6 := (hB2.trans (hb5.mono hB2.size)).trans (hk6.below (by have := hB2.size; have := hb5.size; omega) (fun k e => by have := HB0.out; subst e; omega))
  refine hK.out _ _ (four_cells q2).1 (fun hS6 => ?_)
  clear hK K hS5
  try simp only [q0P, q0Q, q0R, q0S]
  refine wpAnyH_end (by kernel_rfl) ?_
  have HB6 := Lib.hid hB6
  clear k0 ga gb g2 hB2 hb3d hb4d hb5d hb3 hb4 hb5 hk6 hB6
  go_wp2
  go_ret2
  refine ⟨⟨p, b0, b1, rfl, ⟨q2, ⟨5, ?_⟩, ⟨5, q1⟩, Ne.symm hn12, Ne.symm hn02, hn13⟩, by have := HP.out; omega, by have := HB0.out; omega, by have := HB1.out; omega⟩, HB6.out⟩
  rw [hg6, newHead_length, List.drop_replicate]
  rfl
end
/- Walks: a queue of jobs: a number in some bytes. -/
section
open Go.RowKit Go.Shelf
/-- A number in some bytes, the highest first. -/
def numB (n : Nat) : Nat → List UInt8
 | 0 => []
 | m + 1 => UInt8.ofNat (n / 256 ^ m) :: numB n m
theorem numB_length (n m : Nat) : (numB n m).length = m := by
 induction m with
 | zero => rfl
 | succ m ih => simp [numB, ih]
def numPart (n m k : Nat) : List UInt8 := List.replicate (m - k) 0 ++ numB n k
theorem numPart_length (n m k : Nat) (hk : k ≤ m) : (numPart n m k).length = m := by
 unfold numPart; rw [List.length_append, List.length_replicate, numB_length]; omega
theorem numPart_set (n m k j : Nat) (hj : j + 1 + k = m) : (numPart n m k).set j (UInt8.ofNat (n / 256 ^ k)) = numPart n m (k + 1) := by
 unfold numPart
 rw [show m - k = j + 1 by omega, show m - (k + 1) = j by omega, List.replicate_succ', List.append_assoc, List.set_append_right _ _ (by simp)]
 simp [numB]
theorem numPart_all (n m : Nat) : numPart n m m = numB n m := by unfold numPart; simp
theorem numPart_zero (n m : Nat) : ((numPart n m 0).map byteV).toArray = zrow8 m := by unfold numPart numB zrow8; simp
theorem low_byte (n k s : Nat) (hs : s = 8 * k) : byteV (UInt8.ofNat (n / 256 ^ k)) = .int .u8 ((n : Int) / 2 ^ s % 256) := by
 subst hs
 unfold byteV
 rw [UInt8.toNat_ofNat', show (256 : Nat) ^ k = 2 ^ (8 * k) by rw [Nat.pow_mul]]
 simp only [Int.natCast_emod, Int.natCast_ediv, Int.natCast_pow]
 rfl
theorem jnumber_any (n m : Nat) (hn : n < 9223372036854775808) (hm : m ≤ 8) (w : World) : Calls Tryz.prog 102 #[.int .i64 (n : Int), .int .i64 (m : Int)] w fun e w' => e = .returned (.string (bytesOf (numB n m))) ∧ Below w.heap.size w w' := by
 have hmk : ∀ W : World, (Instr.makeSlice 54 (.int .i64 (m : Int)) (.int .i64 (m : Int))).run Tryz.prog W = .ok (.slice (some ⟨W.heap.size, 0, none⟩) m m) (W.alloc (.cells (zrow8 m) 5)) := fun W => make_u8 m m (Nat.le_refl _) (by omega) W
 go_enter Tryz.func102, Tryz.ntmps102
 go_upto_region 2 with (fail)
 rw [← numPart_zero n m]
 obtain ⟨W1, hW1⟩ : ∃ W, W = w.alloc (.cells ((numPart n m 0).map byteV).toArray 5) := ⟨_, rfl⟩
 have g1 : W1.heap[w.heap.size]? = some (.cells ((numPart n m 0).map byteV).toArray 5) := by rw [hW1]; exact alloc_last _ _ rfl
 have hB1 : Below w.heap.size w W1 := by rw [hW1]; exact (Below.refl _ w).alloc (Nat.le_refl _) _
 rw [← hW1]
 clear hW1
 go_wp2_with fail
 go_loopw [6, 11] (fun xx ii wr => ∃ k : Nat, k ≤ m ∧ ii = .int .i64 (k : Int) ∧ Hid (wr.heap[w.heap.size]? = some (.cells ((numPart n m k).map byteV).toArray 5)) ∧ Below w.heap.size w wr) (fun _ ii _ => m - (intOf ii).toNat)
 case atStart => exact ⟨0, by omega, rfl, g1, hB1⟩
 case round =>
  obtain ⟨k, hk, rfl, hg, hBr⟩ := hrel
  by_cases hlt : k < m
  ·obtain ⟨s, hs⟩ : ∃ s : Nat, s = 8 * k := ⟨_, rfl⟩
   obtain ⟨j, hj⟩ : ∃ j : Nat, j + 1 + k = m := ⟨m - 1 - k, by omega⟩
   have hsi : 8 * (k : Int) = (s : Int) := by omega
   have hji : (m : Int) - 1 - (k : Int) = (j : Int) := by omega
   obtain ⟨c0, c1, f1⟩ : ∃ v, wr.cell? ⟨w.heap.size, j, none⟩ = some v ∧ wr.frozen? ⟨w.heap.size, j, none⟩ = false := ⟨_, half_cells hg.out j (by rw [numPart_length _ _ _ (by omega)]; omega)⟩
   have HSET := Lib.hid (numPart_set n m k j hj)
   have HB := Lib.hid (low_byte n k s hs)
   clear hs
   go_wp2
   go_roundw
   case rel =>
    have h := half_set hg.out j (UInt8.ofNat (n / 256 ^ k))
    rw [HSET.out] at h
    refine ⟨k + 1, by omega, by go_num, ?_, hBr.setCell (by simp) _⟩
    rw [← HB.out]
    exact h
   case measure => simp [intOf]; omega
  ·obtain rfl : k = m := by omega
   have hcv := HalfAt.text ⟨_, hg.out⟩ 0 k (by rw [numPart_length _ _ _ (by omega)]; omega) k
   rw [numPart_all, List.drop_zero, List.take_of_length_le (by rw [numB_length]; omega)] at hcv
   go_wp2
   go_ret
   exact ⟨rfl, hBr⟩
end
/- Plain: a disk's records, their end; what writes bytes. -/
section
open Go.RowKit Go.Shelf
theorem nextR_bounds {h : List UInt8} {g k e : Nat} {d : List UInt8} (hn : nextR h g k = some (e, d)) : e ≤ h.length ∧ e = k + 13 + d.length ∧ d.length ≤ 65535 ∧ h.getD k 0 = 1 ∧ (h.drop (k + 1)).take (12 + d.length) = bodyL g k d := by
 unfold nextR at hn
 split at hn
 ·rename_i hc
  obtain ⟨c1, c2, c3, c4, c5⟩ := hc
  injection hn with hn
  injection hn with h1 h2
  have hl : d.length = numL ((h.drop (k + 1)).take 4) := by rw [← h2, List.length_take, List.length_drop]; omega
  refine ⟨by omega, by omega, by omega, c2, ?_⟩
  rw [hl, c5, h2]
 ·cases hn
theorem recF_bounds {h : List UInt8} {g : Nat} : ∀ (f k : Nat) (x : Nat × List UInt8), x ∈ recF h g f k → k ≤ x.1 ∧ x.1 ≤ h.length := by
 intro f
 induction f with
 | zero => intro k x hx; simp [recF] at hx
 | succ f ih =>
  intro k x hx
  cases hn : nextR h g k with
  | none => rw [recF_none hn] at hx; simp at hx
  | some y =>
   obtain ⟨e, d⟩ := y
   rw [recF_some hn] at hx
   obtain ⟨q1, q2, -, -, -⟩ := nextR_bounds hn
   rcases List.mem_cons.1 hx with rfl | hx
   ·exact ⟨by simp only; omega, q1⟩
   ·have := ih e x hx
    omega
theorem lastE_mem (l : List (Nat × List UInt8)) : lastE l = 17 ∨ ∃ x ∈ l, lastE l = x.1 := by
 unfold lastE
 cases hl : l.getLast? with
 | none => left; rfl
 | some x => right; exact ⟨x, List.mem_of_getLast? hl, rfl⟩
theorem endR_bounds {h : List UInt8} (g : Nat) (h64 : 64 ≤ h.length) : 17 ≤ endR h g ∧ endR h g ≤ h.length := by
 unfold endR
 rcases lastE_mem (recs h g) with e | ⟨x, hx, e⟩
 ·rw [e]; omega
 ·rw [e]; exact recF_bounds _ _ _ hx
/-! ### writing -/
theorem putS_length (s : List UInt8) : ∀ (st : Wr) (k : Nat), (putS st k s).h.length = st.h.length := by
 induction s with
 | nil => intro st k; rfl
 | cons c s ih =>
  intro st k
  rw [putS]
  split
  ·rfl
  ·rw [ih]; simp
def Wr.ok (st : Wr) : Prop := -1 ≤ st.fuse ∧ st.fuse ≤ 9223372036854775807
theorem putS_ok (s : List UInt8) : ∀ (st : Wr) (k : Nat), st.ok → (putS st k s).ok := by
 induction s with
 | nil => intro st k h; exact h
 | cons c s ih =>
  intro st k h
  rw [putS]
  split
  ·exact h
  ·refine ih _ _ ?_
   obtain ⟨h1, h2⟩ := h
   constructor <;> (simp only; split <;> omega)
def Dk.wr (d : Dk) : Wr := ⟨d.act, d.fuse, d.failed⟩
/-- The half that is active, written. -/
def Dk.put (d : Dk) (x : Int) (st : Wr) : Dk := if x = 1 then ⟨d.size, d.h0, st.h, st.fuse, st.failed⟩ else ⟨d.size, st.h, d.h1, st.fuse, st.failed⟩
def Wr.err (st : Wr) : Int := if st.failed = true then 9 else 0
def appS (st : Wr) (n g k : Nat) (r : List UInt8) : Wr :=
 putS (putS (if k + 13 + r.length < n then putS (putS st k [0]) (k + 13 + r.length) [0] else putS st k [0]) (k + 1) (bodyL g k r)) k [1]
def Dk.appended (d : Dk) (r : List UInt8) : Int × Dk :=
 if d.failed = true then (9, d) else if 65535 < r.length then (3, d) else if d.half < 0 then (4, d) else if d.size < d.used + 13 + r.length then (5, d) else
  ((appS d.wr d.size d.gen d.used r).err, d.put d.half (appS d.wr d.size d.gen d.used r))
theorem DiskAt.wr0 {w : World} {p b0 b1 : Nat} {d : Dk} (h : DiskAt w p b0 b1 d) (ho : d.ok) : WrAt w p b0 d.size (.slice (some ⟨b0, 0, none⟩) d.size d.size) (.slice (some ⟨b1, 0, none⟩) d.size d.size) ⟨d.h0, d.fuse, d.failed⟩ :=
 ⟨h.at_, h.a0, ho.l0, h.n0, ho.f1, ho.f2⟩
theorem DiskAt.wr1 {w : World} {p b0 b1 : Nat} {d : Dk} (h : DiskAt w p b0 b1 d) (ho : d.ok) : WrAt w p b1 d.size (.slice (some ⟨b0, 0, none⟩) d.size d.size) (.slice (some ⟨b1, 0, none⟩) d.size d.size) ⟨d.h1, d.fuse, d.failed⟩ :=
 ⟨h.at_, h.a1, ho.l1, h.n1, ho.f1, ho.f2⟩
theorem HalfAt.kp {w w' : World} {P : Nat → Prop} {b : Nat} {h : List UInt8} (hh : HalfAt w b h) (hk : Kp P w w') (hp : ¬ P b) : HalfAt w' b h := by
 obtain ⟨t, ht⟩ := hh
 exact ⟨t, (hk.block b (lt_of_heap ht) hp).trans ht⟩
theorem DiskAt.back0 {w w' : World} {p b0 b1 : Nat} {d : Dk} {st : Wr} (h : DiskAt w p b0 b1 d) (hk : Kp (two p b0) w w') (hw : WrAt w' p b0 d.size (.slice (some ⟨b0, 0, none⟩) d.size d.size) (.slice (some ⟨b1, 0, none⟩) d.size d.size) st) : DiskAt w' p b0 b1 (d.put 0 st) :=
 ⟨hw.at_, hw.half, h.a1.kp hk (fun q => Or.elim q h.n1 (fun q => h.n01 q.symm)), h.n01, h.n0, h.n1⟩
theorem DiskAt.back1 {w w' : World} {p b0 b1 : Nat} {d : Dk} {st : Wr} (h : DiskAt w p b0 b1 d) (hk : Kp (two p b1) w w') (hw : WrAt w' p b1 d.size (.slice (some ⟨b0, 0, none⟩) d.size d.size) (.slice (some ⟨b1, 0, none⟩) d.size d.size) st) : DiskAt w' p b0 b1 (d.put 1 st) :=
 ⟨hw.at_, h.a0.kp hk (fun q => Or.elim q h.n0 h.n01), hw.half, h.n01, h.n0, h.n1⟩
theorem WrAt.below {w w' : World} {p b n : Nat} {x y : Value} {st : Wr} (h : WrAt w p b n x y st) (hb : Below w.heap.size w w') : WrAt w' p b n x y st :=
 ⟨(hb.block _ (lt_of_heap h.at_)).trans h.at_, h.half.below hb h.half.lt, h.len, h.ne, h.f1, h.f2⟩
end
end Go.Proofs.YtoggmplkbiidhaaGreatDoor
