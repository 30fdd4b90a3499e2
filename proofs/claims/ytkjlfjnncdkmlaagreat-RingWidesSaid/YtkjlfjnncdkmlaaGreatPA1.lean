/- Helpers and walks, in one text. -/
import Derived.Deep.Quiet
import Derived.Deep.QuietTactic
import Derived.StillTail
import Derived.BigQuiet
import Derived.WalkKit
import Derived.WalkSmall
import Derived.Lib.Hide
import Derived.Lib.AppendStr
import Derived.Lib.ConvBytes
import Derived.Deep.DeepCutAuto
import Derived.Deep.CutBlock
import Derived.RangeFuncNested
import Derived.RangeFuncBound
import Derived.RangeFuncCalls
import Derived.RangeFuncLeaves
import Derived.Shelf.Abstract
import Derived.Shelf.RegionOpen
import Derived.OwnWalkIn
import Derived.TacticsInMore
import Derived.LoopNIn
import Derived.LoopIn
import Derived.Sort.BigQuietIn
import Derived.Stop.RegionWithIn
import Derived.BigRegionIn
import Derived.BigFrameIn
import Derived.Deep.RegionHeld3
import Derived.Test.YtkjlfjnncdkmlaaGreatProg
set_option linter.all false
set_option maxRecDepth 100000
set_option maxHeartbeats 40000000
/- Regions, rows that are owned, slices that read as lists, iterators, appends, rows of rows: what every walk uses. -/
/- A region that draws its order: operations at its head that only read (in a class of worlds), then operations in one forced order: one walk serves every order. -/
namespace Go
@[go_sem] theorem World.setCell_drewN (w : World) (n : Nat) (a : Addr) (v : Value) : (w.drewN n).setCell a v = (w.setCell a v).drewN n := rfl
@[go_sem] theorem World.alloc_drewN (w : World) (n : Nat) (o : Obj) : (w.drewN n).alloc o = (w.alloc o).drewN n := rfl
section
variable {P : Program} {ops : Array Oper} {md : Region.Mode} {C : World → Prop}
def wpAnyQL (P : Program) (md : Region.Mode) (ops : Array Oper) (C : World → Prop) (n : Nat) (L : Array Bool → Act → Prop) : Nat → Array Bool → Act → Prop
 | 0, listed, a => L listed a
 | f + 1, listed, a =>
  Region.ready md ops listed ≠ [] ∧ ∀ i ∈ Region.ready md ops listed, i < n ∧ qOp P ops C i (wpAnyQL P md ops C n L f (listed.setIfInBounds i true)) a
theorem wpAny_of_headQ {n g : Nat} {L : Array Bool → Act → Prop} {Q' : Exit → Act → World → Prop} (hL : ∀ listed a w, C w → L listed a → wpAny P md ops Q' g listed a w) :
  ∀ (f : Nat) (listed : Array Bool) (a : Act) (w : World), C w → wpAnyQL P md ops C n L f listed a → wpAny P md ops Q' (f + g) listed a w
 | 0, listed, a, w, hw, h => by rw [Nat.zero_add]; exact hL _ _ _ hw h
 | f + 1, listed, a, w, hw, h => by
  rw [show f + 1 + g = (f + g) + 1 by omega]
  exact ⟨fun h0 => absurd h0 h.1, fun i hi => wpOp_of_qOp hw (fun a' w' hw' h' => wpAny_of_headQ hL f _ a' w' hw' h') (h.2 i hi).2⟩
theorem wpAnyQL_first {n i : Nat} {oi : Oper} {v : Value} {L : Array Bool → Act → Prop} (hi : ops[i]? = some oi) (hsel : ∀ (j : Nat) (o : Oper) cs b, ops[j]? = some o → o.op ≠ .select cs b)
  (hs : Region.sinkB md ops n = true) (hc : Region.chainB md ops n = true) (hn : n < ops.size) (hin : i < n)
  (hdone : ∀ listed a, L listed a → ∀ j ∈ Region.ready md ops listed, n ≤ j) :
  ∀ (f : Nat) (listed : Array Bool) (a : Act), HeadInv md ops n listed →
   (∀ j oj, ops[j]? = some oj → j ≠ i → listed.getD j true = false → (∀ e ∈ oj.after, Region.binds md e = true → e.on ≠ i) → oi.apart ops oj = true) →
   i ∈ Region.ready md ops listed → YieldsIn P ops C oi v a →
   wpAnyQL P md ops C n L f (listed.setIfInBounds i true) (a.put oi.dst v) → wpAnyQL P md ops C n L (f + 1) listed a := by
 intro f
 induction f with
 | zero =>
  intro listed a inv _ hr hy H
  have hun := (mem_ready.1 hr).1
  refine ⟨fun h => (by rw [h] at hr; cases hr), fun j hj => ?_⟩
  have hjn : j < n := by
   rcases Nat.lt_or_ge j n with h | h
   ·exact h
   ·exact absurd hj (tail_waits hs hc hn inv _ i rfl hin hun j h)
  refine ⟨hjn, ?_⟩
  by_cases hji : j = i
  ·subst hji; exact hy.qOp hi H
  ·have := hdone _ _ H j (ready_mono hj hji)
   omega
 | succ f ih =>
  intro listed a inv hfree hr hy H
  have hun := (mem_ready.1 hr).1
  refine ⟨fun h => (by rw [h] at hr; cases hr), fun j hj => ?_⟩
  have hjn : j < n := by
   rcases Nat.lt_or_ge j n with h | h
   ·exact h
   ·exact absurd hj (tail_waits hs hc hn inv _ i rfl hin hun j h)
  refine ⟨hjn, ?_⟩
  by_cases hji : j = i
  ·subst hji; exact hy.qOp hi H
  ·have h1 := (H.2 j (ready_mono hj hji)).2
   obtain ⟨hjun, oj, hoj, hall⟩ := mem_ready.1 hj
   have hnot : ∀ e ∈ oj.after, Region.binds md e = true → e.on ≠ i := fun e he hb heq => by
    have h1 := hall e he hb
    rw [heq, getD_both hun] at h1
    cases h1
   have h2 := qOp_put hoj (hfree j oj hoj hji hjun hnot) (fun cs b => hsel i oi cs b hi) (fun cs b => hsel j oj cs b hoj) hy h1
   have hfree' : ∀ k ok, ops[k]? = some ok → k ≠ i → (listed.setIfInBounds j true).getD k true = false →
     (∀ e ∈ ok.after, Region.binds md e = true → e.on ≠ i) → oi.apart ops ok = true := fun k ok hk hki hun hno => by
    refine hfree k ok hk hki ?_ hno
    by_cases hjk : j = k
    ·subst hjk; exact hjun
    ·rw [getD_set_ne true hjk] at hun; exact hun
   refine qOp_mono (fun a' h3 => ih (listed.setIfInBounds j true) a' (inv.set hj hjn) hfree' (ready_mono hr (Ne.symm hji)) h3.1 ?_) h2
   rw [Array.setIfInBounds_comm _ _ hji]
   exact h3.2
theorem wpAnyQL_lex {n g : Nat} {Lq : Act → Prop} (hsel : Region.noSelect ops = true) (hs : Region.sinkB md ops n = true) (hc : Region.chainB md ops n = true) (hn : n < ops.size) :
  ∀ (l : List Oper) (k : Nat) (listed : Array Bool) (a : Act), (∀ j, j < l.length → l[j]? = ops[k + j]?) → k + l.length = n → HeadInv md ops n listed →
  Region.lexHead md ops g l.length k listed = true → wpQuiet P ops C Lq l a →
  wpAnyQL P md ops C n (fun listed' a' => Region.seqB md ops g n listed' = true ∧ Lq a') l.length listed a
 | [], k, listed, a, _, hk, _, hB, h => by
  have : k = n := by simpa using hk
  subst this
  exact ⟨by simpa [Region.lexHead] using hB, h⟩
 | o :: l, k, listed, a, hl, hk, inv, hB, h => by
  have h0 : ops[k]? = some o := by simpa using (hl 0 (by simp)).symm
  simp only [List.length_cons, Region.lexHead, Bool.and_eq_true] at hB
  obtain ⟨⟨hr, hf⟩, hB'⟩ := hB
  have hkn : k < n := by simp only [List.length_cons] at hk; omega
  have hr' : k ∈ Region.ready md ops listed := by simpa using hr
  have hst : qOp P ops C k (wpQuiet P ops C Lq l) a := by unfold qOp; simp only [h0]; exact h
  obtain ⟨v, hy, hK⟩ := yieldsIn_of_qOp h0 hst
  exact wpAnyQL_first h0 (Region.noSelect_spec hsel) hs hc hn hkn (fun listed' a' hL => seqB_ready hL.1) l.length listed a inv (Region.free_spec h0 hf) hr' hy
   (wpAnyQL_lex hsel hs hc hn l (k + 1) _ _ (fun j hj => by have := hl (j + 1) (by simp; omega); simpa [Nat.add_assoc, Nat.add_comm 1 j] using this) (by simp only [List.length_cons] at hk; omega) (inv.set hr' hkn) hB' hK)
theorem wp_region_quiet_tail {id : Nat} {Q : Exit → Act → World → Prop} {a : Act} {w : World} {l : List Oper} (n : Nat) (hm : P.follows .mixedOrders = true) (hB : Region.lexTailB .any l.toArray n = true)
  (hC : C w.drew) (h : wpQuiet P l.toArray C (fun a' => ∀ w', C w' → wpList P l.toArray Q (l.drop n) a' w') (l.take n) a) : (Code.region id l.toArray true).wp P Q a w := by
 simp only [Region.lexTailB, Bool.and_eq_true, decide_eq_true_eq] at hB
 obtain ⟨⟨⟨⟨hsel, hn⟩, hs⟩, hc⟩, hlex⟩ := hB
 have hn' : n < l.length := by simpa using hn
 have htl : (l.take n).length = n := by simp; omega
 have hdl : (l.drop n).length = l.toArray.size - n := by simp
 have inv0 : HeadInv .any l.toArray n (Array.replicate l.toArray.size false) :=
  ⟨by simp, fun j oj _ hl => (by rw [getD_replicate_false] at hl; cases hl), fun t _ ht => getD_in (by simpa using ht) (getD_replicate_false _ _)⟩
 have H := wpAnyQL_lex (md := .any) (g := l.toArray.size - n) hsel hs hc hn (l.take n) 0 _ a (fun j hj => by
  have hj' : j < n := by rw [htl] at hj; exact hj
  simp [hj']) (by simpa using htl) inv0 (by rw [htl]; exact hlex) h
 refine wp_region_any hm ?_
 have := wpAny_of_headQ (Q' := Q) (g := l.toArray.size - n) (fun listed a' w' hw' hL => by
  have := wpAny_of_seq (md := .any) (Q' := Q) (l.drop n) n listed a' w' (fun j => by simp [List.getElem?_drop]) (by rw [hdl]; exact hL.1) (hL.2 _ hw')
  rwa [hdl] at this) _ _ _ _ hC H
 rw [htl, show n + (l.toArray.size - n) = l.toArray.size by omega] at this
 exact this
theorem wp_region_quiet_tail_lit {id : Nat} {Q : Exit → Act → World → Prop} {a : Act} {w : World} {l : List Oper} (n : Nat) (hm : P.follows .mixedOrders = true) (hB : Region.lexTailB .any l.toArray n = true)
  (h : wpQuiet P l.toArray (fun w' => ∃ n, w' = w.drewN n) (fun a' => ∀ w', (∃ n, w' = w.drewN n) → wpList P l.toArray Q (l.drop n) a' w') (l.take n) a) : (Code.region id l.toArray true).wp P Q a w :=
 wp_region_quiet_tail (C := fun w' => ∃ n, w' = w.drewN n) n hm hB ⟨1, rfl⟩ h
theorem wp_region_quiet_tail_at {id k : Nat} {Q : Exit → Act → World → Prop} {a : Act} {w : World} {l : List Oper} (n : Nat) (hm : P.follows .mixedOrders = true) (hB : Region.lexTailB .any l.toArray n = true)
  (h : wpQuiet P l.toArray (fun w' => ∃ n, w' = w.drewN n) (fun a' => ∀ w', (∃ n, w' = w.drewN n) → wpList P l.toArray Q (l.drop n) a' w') (l.take n) a) : (Code.region id l.toArray true).wp P Q a (w.drewN k) :=
 wp_region_quiet_tail (C := fun w' => ∃ n, w' = w.drewN n) n hm hB ⟨k + 1, rfl⟩ h
end
/-! ### Blocks -/
theorem alloc_last (w : World) (o : Obj) {n : Nat} (h : n = w.heap.size) : (w.alloc o).heap[n]? = some o := by
 subst h; exact heap_alloc_new w o
theorem lt_of_heap {w : World} {b : Nat} {o : Obj} (h : w.heap[b]? = some o) : b < w.heap.size := by
 rcases Nat.lt_or_ge b w.heap.size with h' | h'
 ·exact h'
 ·rw [Array.getElem?_eq_none h'] at h; cases h
theorem bcell {B : Nat} {W w1 : World} (hb : RowKit.Below B W w1) : (∀ b o, b < B → w1.cell? ⟨b, o, none⟩ = W.cell? ⟨b, o, none⟩) ∧ (∀ b o, b < B → w1.frozen? ⟨b, o, none⟩ = W.frozen? ⟨b, o, none⟩) :=
 ⟨fun b o h => hb.cell (p := ⟨b, o, none⟩) h, fun b o h => hb.frozen (p := ⟨b, o, none⟩) h⟩
end Go
/- A row that the call owns, its frozen stretch being harmless (a conversion's row is marked behind its end). -/
namespace Go
open RowKit
open Lib (strCells strCells_length strCells_oneCell)
def okFz (fz : Nat × Nat) (n : Nat) : Prop := ∀ o, o < n → ¬ (fz.1 ≤ o ∧ o < fz.2)
theorem okFz_zero (n : Nat) : okFz (0, 0) n := fun _ _ h => by omega
def World.owns (w : World) (base : Nat) (e : TypeId) (size : Nat) (v : Value) (n : Nat) (xs : List Value) : Prop :=
  xs.length = n * size ∧
  ((v = .slice none 0 0 ∧ n = 0) ∨
   ∃ g cap cur fz, v = .slice (some ⟨g, 0, none⟩) n cap ∧ base ≤ g ∧ w.heap[g]? = some (.cells cur e fz) ∧ okFz fz cur.size ∧ n ≤ cap ∧ cap ≤ maxLen ∧ cur.size = cap * size ∧ cur.toList.take (n * size) = xs)
section
variable {w : World} {base : Nat} {e : TypeId} {size : Nat} {v : Value} {n : Nat} {xs : List Value}
theorem World.owns_of (h : w.ownsRow base e size v n xs) : w.owns base e size v n xs := by
 refine ⟨h.1, ?_⟩
 rcases h.2 with hn | ⟨g, cap, cur, hv, hb, hg, rest⟩
 ·exact .inl hn
 ·exact .inr ⟨g, cap, cur, (0, 0), hv, hb, hg, okFz_zero _, rest⟩
theorem World.owns_nil (w : World) (base : Nat) (e : TypeId) (size : Nat) : w.owns base e size (.slice none 0 0) 0 [] := ⟨by simp, .inl ⟨rfl, rfl⟩⟩
theorem World.owns.lt (h : w.owns base e size v n xs) : ∀ k, v.ownBlock = some k → base ≤ k ∧ k < w.heap.size := by
 intro k hk
 rcases h.2 with ⟨rfl, _⟩ | ⟨g, cap, cur, fz, rfl, hb, hg, _⟩
 ·simp [Value.ownBlock] at hk
 ·simp [Value.ownBlock] at hk
  subst hk
  exact ⟨hb, lt_of_heap hg⟩
theorem World.owns.kept {w' : World} {row : Option Nat} (h : w.owns base e size v n xs) (hg : w.grownBy w' row) (hne : v.ownBlock = none ∨ v.ownBlock ≠ row) : w'.owns base e size v n xs := by
 refine ⟨h.1, ?_⟩
 rcases h.2 with hn | ⟨g, cap, cur, fz, rfl, hb, hgg, rest⟩
 ·exact .inl hn
 ·refine .inr ⟨g, cap, cur, fz, rfl, hb, ?_, rest⟩
  rw [hg.block g (lt_of_heap hgg) (by simpa [Value.ownBlock] using hne)]
  exact hgg
theorem World.owns.alloc (h : w.owns base e size v n xs) (o : Obj) : (w.alloc o).owns base e size v n xs :=
 h.kept (World.grownBy_alloc w o none) (by cases hv : v.ownBlock <;> simp)
theorem World.owns.drew (h : w.owns base e size v n xs) : w.drew.owns base e size v n xs := h
theorem World.owns.mono {base' : Nat} (h : w.owns base e size v n xs) (hb : base' ≤ base) : w.owns base' e size v n xs := by
 refine ⟨h.1, ?_⟩
 rcases h.2 with hn | ⟨g, cap, cur, fz, rfl, hb', rest⟩
 ·exact .inl hn
 ·exact .inr ⟨g, cap, cur, fz, rfl, Nat.le_trans hb hb', rest⟩
theorem World.owns.below {w' : World} (h : w.owns base e size v n xs) (hb : Below w.heap.size w w') : w'.owns base e size v n xs := by
 refine ⟨h.1, ?_⟩
 rcases h.2 with hn | ⟨g, cap, cur, fz, rfl, hb', hgg, rest⟩
 ·exact .inl hn
 ·refine .inr ⟨g, cap, cur, fz, rfl, hb', ?_, rest⟩
  rw [hb.block g (lt_of_heap hgg)]; exact hgg
theorem World.owns.setCell (h : w.owns base e size v n xs) {a : Addr} (ha : a.block < base) (u : Value) : (w.setCell a u).owns base e size v n xs := by
 refine ⟨h.1, ?_⟩
 rcases h.2 with hn | ⟨g, cap, cur, fz, rfl, hb', hgg, rest⟩
 ·exact .inl hn
 ·refine .inr ⟨g, cap, cur, fz, rfl, hb', ?_, rest⟩
  rw [Below.heap_setCell _ _ _ _ (by omega)]; exact hgg
theorem World.owns.setCell_ne (h : w.owns base e size v n xs) {a : Addr} (ha : v.ownBlock ≠ some a.block) (u : Value) : (w.setCell a u).owns base e size v n xs := by
 refine ⟨h.1, ?_⟩
 rcases h.2 with hn | ⟨g, cap, cur, fz, rfl, hb', hgg, rest⟩
 ·exact .inl hn
 ·refine .inr ⟨g, cap, cur, fz, rfl, hb', ?_, rest⟩
  rw [Below.heap_setCell _ _ _ _ (by intro e; apply ha; simp [Value.ownBlock, e])]; exact hgg
theorem World.owns.cells (h : w.owns base e size v n xs) {g : Nat} (hg : v.ownBlock = some g) : ∀ j u, xs[j]? = some u → w.cell? ((⟨g, 0, none⟩ : Addr).add j) = some u := by
 intro j u hu
 rcases h.2 with ⟨rfl, _⟩ | ⟨g', cap, cur, fz, rfl, _, hgg, _, _, _, _, htake⟩
 ·simp [Value.ownBlock] at hg
 ·simp [Value.ownBlock] at hg
  subst hg
  have hadd : (⟨g', 0, none⟩ : Addr).add j = ⟨g', j, none⟩ := by unfold Addr.add; split <;> simp_all
  rw [hadd, cell_of_row w g' j cur e fz hgg]
  rw [← htake, List.getElem?_take] at hu
  split at hu
  ·simpa using hu
  ·cases hu
theorem World.owns.cell {g len cap : Nat} (h : w.owns base e size (.slice (some ⟨g, 0, none⟩) len cap) n xs) (j : Nat) (u : Value) (hj : xs[j]? = some u) : w.cell? ⟨g, j, none⟩ = some u := by
 have := h.cells rfl j u hj
 rwa [show (⟨g, 0, none⟩ : Addr).add j = ⟨g, j, none⟩ by unfold Addr.add; split <;> simp_all] at this
theorem World.owns.facts {g len cap : Nat} (h : w.owns base e size (.slice (some ⟨g, 0, none⟩) len cap) n xs) : len = n ∧ n ≤ cap ∧ base ≤ g ∧ cap ≤ maxLen ∧ g < w.heap.size := by
 rcases h.2 with ⟨h0, _⟩ | ⟨g', cap', cur, fz, hv, hb, hg, _, hle, hm, _⟩
 ·cases h0
 ·cases hv; exact ⟨rfl, hle, hb, hm, lt_of_heap hg⟩
theorem World.owns.succ {k : Nat} (h : w.owns base e size v (k + 1) xs) : ∃ g cap, v = .slice (some ⟨g, 0, none⟩) (k + 1) cap := by
 rcases h.2 with ⟨_, h0⟩ | ⟨g, cap, _, _, rfl, _⟩
 ·omega
 ·exact ⟨g, cap, rfl⟩
end
theorem World.owns.pos {w : World} {base : Nat} {e : TypeId} {size : Nat} {v : Value} {n : Nat} {xs : List Value} (h : w.owns base e size v n xs) (hn : 0 < n) : ∃ g cap, v = .slice (some ⟨g, 0, none⟩) n cap := by
 rcases h.2 with ⟨_, h0⟩ | ⟨g, cap, _, _, rfl, _⟩
 ·omega
 ·exact ⟨g, cap, rfl⟩
theorem run_storeCells_fz (P : Program) (g o : Nat) (t : TypeId) (fz : Nat × Nat) : ∀ (vs : List Value) (i : Nat) (cur : Array Value) (w : World), w.heap[g]? = some (.cells cur t fz) → okFz fz cur.size → o + i + vs.length ≤ cur.size → (∀ v ∈ vs, v.oneCell' = true) →
  (storeCells ⟨g, o, none⟩ vs i).run P w = .ok () (w.setRow g (cur.toList.take (o + i) ++ vs ++ cur.toList.drop (o + i + vs.length)).toArray)
 | [], i, cur, w, hg, _, _, _ => by
  simp only [storeCells, List.append_nil, List.length_nil, Nat.add_zero, List.take_append_drop, Array.toArray_toList]
  rw [setRow_self w g cur t fz hg]
  rfl
 | v :: rest, i, cur, w, hg, hfz, hl, h1 => by
  have hi : o + i < cur.size := by simp at hl; omega
  have hadd : (⟨g, o, none⟩ : Addr).add i = ⟨g, o + i, none⟩ := by unfold Addr.add; split <;> simp_all
  have hcell : w.cell? ⟨g, o + i, none⟩ = some cur[o + i] := by simp [World.cell?, hg, hi]
  have hfro : w.frozen? ⟨g, o + i, none⟩ = false := by
   have := hfz (o + i) hi
   obtain ⟨lo, hi'⟩ := fz
   simp only [World.frozen?, hg, Bool.and_eq_false_iff, decide_eq_false_iff_not]
   simp only at this
   omega
  have hst : (store ((⟨g, o, none⟩ : Addr).add i) v).run P w = .ok () (w.setRow g (cur.setIfInBounds (o + i) v)) := by
   rw [hadd, run_store P w _ v _ (h1 v (by simp)), hcell]
   simp [hfro, setCell_eq_setRow w g (o + i) cur t fz v hg]
  have ih := run_storeCells_fz P g o t fz rest (i + 1) (cur.setIfInBounds (o + i) v) (w.setRow g (cur.setIfInBounds (o + i) v)) (setRow_heap w g cur _ t _ hg) (by simpa using hfz) (by simp at hl ⊢; omega) (fun x hx => h1 x (by simp [hx]))
  simp only [storeCells, Sem.run_bind, hst, Result.andThen_ok, ih, setRow_setRow]
  congr 3
  have e := list_seg_step cur.toList (o + i) v rest (by simp at hl ⊢; omega)
  simpa [Array.toList_setIfInBounds, Nat.add_assoc] using e
section
variable {P : Program} (w : World)
theorem run_append_room_fz (t ty e : TypeId) (i : TypeInfo) (ht : P.underlying t = some (.slice e)) (hi : P.info? e = some i)
  (g sLen sCap : Nat) (cur : Array Value) (fz : Nat × Nat) (hg : w.heap[g]? = some (.cells cur e fz)) (hfz : okFz fz cur.size)
  (a : Addr) (m c : Nat) (news : List Value) (hl : news.length = m * i.size) (hnews : ∀ j u, news[j]? = some u → w.cell? (a.add j) = some u) (h1 : ∀ u ∈ news, u.oneCell' = true)
  (hroom : sLen + m ≤ sCap) (hfit : sLen * i.size + news.length ≤ cur.size) :
  (Builtin.append_ #[t, t] ty #[.slice (some ⟨g, 0, none⟩) sLen sCap, .slice (some a) m c]).run P w =
   .ok (.slice (some ⟨g, 0, none⟩) (sLen + m) sCap) (w.setRow g (cur.toList.take (sLen * i.size) ++ news ++ cur.toList.drop (sLen * i.size + news.length)).toArray) := by
 have hf := run_firstCells_some (P := P) w i.size m a m c news hl hnews
 have hst := run_storeCells_fz P g (sLen * i.size) e fz news 0 cur w hg hfz (by simpa using hfit) h1
 simp only [Nat.add_zero] at hst
 simp [Builtin.append_, run_underlying ht, sizeOf, typeInfo, hi, Builtin.lenOf, hroom, hf, Addr.add_lit, hst]
theorem run_append_owns (base : Nat) (t ty e : TypeId) (i : TypeInfo) (z : Value) (size bytes : Nat) (ht : P.underlying t = some (.slice e)) (hi : P.info? e = some i) (hz : i.zero = some z)
  (hsize : i.size = size) (hby : i.bytes = bytes) (hzs : z.cells.size = size) (hsz : 0 < size)
  (v : Value) (n : Nat) (xs : List Value) (hown : w.owns base e size v n xs)
  (a : Addr) (m c : Nat) (news : List Value) (hl : news.length = m * size) (hnews : ∀ j u, news[j]? = some u → w.cell? (a.add j) = some u) (h1 : ∀ u ∈ news, u.oneCell' = true)
  (h63 : n + m ≤ maxLen) (hbytes : (n + m) * bytes ≤ 140737488355328) (hbase : base ≤ w.heap.size) :
  ∃ v' w', (Builtin.append_ #[t, t] ty #[v, .slice (some a) m c]).run P w = .ok v' w' ∧ w'.owns base e size v' (n + m) (xs ++ news) ∧ w.grownBy w' v.ownBlock ∧
   (v' = .slice none 0 0 ↔ v = .slice none 0 0 ∧ m = 0) := by
 rcases hown.2 with ⟨rfl, rfl⟩ | ⟨g, cap, cur, fz, rfl, hbg, hg, hfz, hnc, hcm, hcs, htake⟩
 ·obtain ⟨v', w', h1, h2, h3, h4⟩ := run_append_own (P := P) w base t ty e i z size bytes ht hi hz hsize hby hzs hsz (.slice none 0 0) 0 xs ⟨hown.1, .inl ⟨rfl, rfl⟩⟩ a m c news hl hnews h1 h63 hbytes hbase
  exact ⟨v', w', h1, World.owns_of h2, h3, h4⟩
 ·subst hsize
  subst hby
  have hsmall : n + m ≤ 9223372036854775807 := by simp only [maxLen] at h63; omega
  have hlen : (xs ++ news).length = (n + m) * i.size := by rw [List.length_append, hown.1, hl, Nat.add_mul]
  by_cases hroom : n + m ≤ cap
  ·have hfit : n * i.size + news.length ≤ cur.size := by rw [hl, hcs, ← Nat.add_mul]; exact Nat.mul_le_mul_right _ hroom
   have hr := run_append_room_fz (P := P) w t ty e i ht hi g n cap cur fz hg hfz a m c news hl hnews h1 hroom hfit
   have hsz' : (cur.toList.take (n * i.size) ++ news ++ cur.toList.drop (n * i.size + news.length)).toArray.size = cur.size := by
    simp only [List.size_toArray, List.length_append, List.length_take, List.length_drop, Array.length_toList]
    omega
   refine ⟨_, _, hr, ⟨hlen, .inr ⟨g, cap, _, fz, rfl, hbg, setRow_heap w g cur _ e _ hg, by rw [hsz']; exact hfz, hroom, hcm, by rw [hsz']; exact hcs, ?_⟩⟩, ⟨rfl, rfl, rfl, by simp, fun k _ hk => setRow_other w g k _ (fun e => hk (by simp [Value.ownBlock, e]))⟩, by simp⟩
   rw [htake, ← hlen]
   exact List.take_left
  ·have holds : ∀ j u, xs[j]? = some u → w.cell? ((⟨g, 0, none⟩ : Addr).add j) = some u := hown.cells (g := g) rfl
   have hr := run_append_grow (P := P) w t ty e i z ht hi hz ⟨g, 0, none⟩ n cap xs hown.1 holds a m c news hl hnews (by omega) (by omega) (growslice_fits (by omega) hbytes)
   have hge := grownCap_ge w (n + m) cap e
   have hcm2 : grownCap w (n + m) cap e ≤ maxLen := grownCap_le_maxLen w (n + m) cap e h63
   refine ⟨_, _, hr, ⟨hlen, .inr ⟨w.heap.size, _, _, (0, 0), rfl, hbase, heap_alloc_new w.drew _, okFz_zero _, hge, hcm2, ?_, ?_⟩⟩, ⟨rfl, rfl, rfl, by simp, fun k hk _ => Below.heap_alloc w.drew _ k hk⟩, by simp⟩
   ·simp only [Array.size_append, List.size_toArray, size_zeroCells, hzs, hown.1, hl, ← Nat.add_mul]
    congr 1
    omega
   ·simp only [Array.toList_append, List.append_assoc]
    rw [← List.append_assoc, ← hlen]
    exact List.take_left
theorem wpList_append_owns {ops : Array Oper} {rest : List Oper} {o : Oper} {a : Act} {Q : Exit → Act → World → Prop} (hgd : o.guard = none) (s x : Operand) (t : TypeId)
  (ho : o.op = .call { callee := .builtin .append, args := #[s, x], argTypes := #[t, t] })
  (base : Nat) (e : TypeId) (i : TypeInfo) (z : Value) (size bytes : Nat) (ht : P.underlying t = some (.slice e)) (hi : P.info? e = some i) (hz : i.zero = some z)
  (hsize : i.size = size) (hby : i.bytes = bytes) (hzs : z.cells.size = size) (hsz : 0 < size)
  (v : Value) (n : Nat) (xs : List Value) (hs : a.eval s = v) (hown : w.owns base e size v n xs)
  (ad : Addr) (m c : Nat) (news : List Value) (hx : a.eval x = .slice (some ad) m c) (hl : news.length = m * size) (hnews : ∀ j u, news[j]? = some u → w.cell? (ad.add j) = some u) (h1 : ∀ u ∈ news, u.oneCell' = true)
  (h63 : n + m ≤ maxLen) (hbytes : (n + m) * bytes ≤ 140737488355328) (hbase : base ≤ w.heap.size)
  (h : ∀ v' w', w'.owns base e size v' (n + m) (xs ++ news) → w.grownBy w' v.ownBlock → (v' = .slice none 0 0 ↔ v = .slice none 0 0 ∧ m = 0) → wpList P ops Q rest (a.put o.dst v') w') : wpList P ops Q (o :: rest) a w := by
 refine wpList_plain hgd fun K hK => ?_
 obtain ⟨v', w', hr, h2, h3, h4⟩ := run_append_owns (P := P) w base t o.type e i z size bytes ht hi hz hsize hby hzs hsz v n xs hown ad m c news hl hnews h1 h63 hbytes hbase
 unfold Oper.wp execOp
 simp only [ho, resolve, invoke, builtin, Sem.run_bind, Sem.run_pure, Result.andThen_ok, List.map_toArray, List.map_cons, List.map_nil, hs, hx, hr]
 exact hK _ _ (h v' w' h2 h3 h4)
end
/-! ### Bytes and strings -/
section
variable {P : Program} (w : World)
theorem run_owns_string {w : World} {base g len cap n m : Nat} {l : List UInt8} (src dst e : TypeId) (hs : P.underlying src = some (.slice e)) (he : P.underlying e = some (.int .u8)) (hd : P.underlying dst = some .string)
  (h : w.owns base e 1 (.slice (some ⟨g, 0, none⟩) len cap) n (l.map fun b => Value.int .u8 (b.toNat : Int))) (hm : m ≤ l.length) (c : Nat) :
  (convert src dst (.slice (some ⟨g, 0, none⟩) m c)).run P w = .ok (.string ⟨(l.take m).toArray⟩) w := by
 have hc := h.cells rfl
 have := run_convert_bytes_back (P := P) w src dst e ⟨g, 0, none⟩ c (l.take m) hs he hd (fun j hj => by
  have hj' : j < l.length := by simp at hj; omega
  refine hc j _ ?_
  simp [hj'])
 rw [List.length_take, Nat.min_eq_left hm] at this
 exact this
end
/-! ### A slice of one-cell elements that is only read -/
def World.reads (w : World) (B : Nat) (v : Value) (xs : List Value) : Prop :=
 ∃ a cap, v = .slice a xs.length cap ∧ (a = none → cap = 0) ∧ xs.length ≤ cap ∧ cap ≤ maxLen ∧ ∀ j u, xs[j]? = some u → ∃ b off, a = some ⟨b, off, none⟩ ∧ b < B ∧ w.cell? ⟨b, off + j, none⟩ = some u
theorem World.reads.below {w w' : World} {B : Nat} {v : Value} {xs : List Value} (h : w.reads B v xs) (hb : Below B w w') : w'.reads B v xs := by
 obtain ⟨a, cap, hv, hn, hz, hmx, hc⟩ := h
 refine ⟨a, cap, hv, hn, hz, hmx, fun j u hj => ?_⟩
 obtain ⟨b, off, ha, hB, hcell⟩ := hc j u hj
 exact ⟨b, off, ha, hB, (hb.cell (p := ⟨b, off + j, none⟩) hB).trans hcell⟩
theorem World.reads.mono {w : World} {B B' : Nat} {v : Value} {xs : List Value} (h : w.reads B v xs) (hb : B ≤ B') : w.reads B' v xs := by
 obtain ⟨a, cap, hv, hn, hz, hmx, hc⟩ := h
 refine ⟨a, cap, hv, hn, hz, hmx, fun j u hj => ?_⟩
 obtain ⟨b, off, ha, hB, hcell⟩ := hc j u hj
 exact ⟨b, off, ha, by omega, hcell⟩
theorem World.owns.reads {w : World} {base : Nat} {e : TypeId} {v : Value} {n : Nat} {xs : List Value} (h : w.owns base e 1 v n xs) : w.reads w.heap.size v xs := by
 have hl : xs.length = n := by have := h.1; omega
 rcases h.2 with ⟨h1, h2⟩ | ⟨g, cap, cur, fz, rfl, hb, hg, _, hcap, hcm, _⟩
 ·have : xs = [] := List.eq_nil_of_length_eq_zero (by omega)
  subst this
  exact ⟨none, 0, h1, fun _ => rfl, Nat.le_refl _, Nat.zero_le _, fun j u hj => by simp at hj⟩
 ·refine ⟨some ⟨g, 0, none⟩, cap, by rw [hl], by simp, by omega, hcm, fun j u hj => ⟨g, 0, rfl, lt_of_heap hg, ?_⟩⟩
  rw [Nat.zero_add]; exact h.cell j u hj
theorem news_alloc (w : World) (l : List Value) (e : TypeId) : ∀ j u, l[j]? = some u → (w.alloc (.cells l.toArray e)).cell? ((⟨w.heap.size, 0, none⟩ : Addr).add j) = some u := by
 intro j u hj
 have hadd : (⟨w.heap.size, 0, none⟩ : Addr).add j = ⟨w.heap.size, j, none⟩ := by unfold Addr.add; split <;> simp_all
 rw [hadd, cell_of_row _ _ _ _ _ (0, 0) (heap_alloc_new w _)]
 simpa using hj
theorem World.owns.ne {w : World} {base b : Nat} {e T : TypeId} {size : Nat} {v : Value} {n : Nat} {xs : List Value} {c : Array Value} {fz : Nat × Nat} (h : w.owns base e size v n xs) (hb : w.heap[b]? = some (.cells c T fz)) (hT : T ≠ e) : v.ownBlock ≠ some b := by
 intro hk
 rcases h.2 with ⟨rfl, _⟩ | ⟨g, cap, cur, fz', rfl, _, hg, _⟩
 ·simp [Value.ownBlock] at hk
 ·simp [Value.ownBlock] at hk
  subst hk
  rw [hb] at hg
  cases hg
  exact hT rfl
/-! ### The same laws at an operation of a region that draws its order -/
end Go
/- Slices that are read: what a walk asks of them. -/
namespace Go
open RowKit
def u32V (x : Nat) : Value := .int .u32 (x : Int)
def i64V (x : Int) : Value := .int .i64 x
theorem reads_shape {α : Type} {w : World} {B : Nat} {v : Value} {l : List α} {enc : α → Value} (h : w.reads B v (l.map enc)) :
  ∃ a cap, v = .slice a l.length cap ∧ l.length ≤ cap ∧ cap ≤ 9223372036854775807 ∧ ∀ j x, l[j]? = some x → ∃ b off, a = some ⟨b, off, none⟩ ∧ b < B ∧ w.cell? ⟨b, off + j, none⟩ = some (enc x) := by
 obtain ⟨a, cap, rfl, _, hz, hmx, hc⟩ := h
 exact ⟨a, cap, by simp, by simpa using hz, by unfold maxLen at hmx; exact hmx, fun j x hx => hc j _ (by simp [hx])⟩
theorem reads_u32 {w : World} {B : Nat} {v : Value} {l : List Nat} (h : w.reads B v (l.map u32V)) :
  ∃ a cap, v = .slice a l.length cap ∧ l.length ≤ cap ∧ cap ≤ 9223372036854775807 ∧ ∀ (j x : Nat), l[j]? = some x → ∃ b off, a = some ⟨b, off, none⟩ ∧ b < B ∧ w.cell? ⟨b, off + j, none⟩ = some (.int .u32 (x : Int)) := reads_shape h
theorem reads_i64 {w : World} {B : Nat} {v : Value} {l : List Int} (h : w.reads B v (l.map i64V)) :
  ∃ a cap, v = .slice a l.length cap ∧ l.length ≤ cap ∧ cap ≤ 9223372036854775807 ∧ ∀ (j : Nat) (x : Int), l[j]? = some x → ∃ b off, a = some ⟨b, off, none⟩ ∧ b < B ∧ w.cell? ⟨b, off + j, none⟩ = some (.int .i64 x) := reads_shape h
theorem ret_bool {a b : Bool} (h : a = b) : Ending.returned (.bool a) = .returned (.bool b) := by rw [h]
theorem all_take_succ {α : Type} (p : α → Bool) (l : List α) (k : Nat) (x : α) (h : l[k]? = some x) : (l.take (k + 1)).all p = ((l.take k).all p && p x) := by
 rw [List.take_add_one, h]; simp
theorem reads_len {w : World} {B : Nat} {v : Value} {l : List Value} (h : w.reads B v l) : ∃ a cap, v = .slice a l.length cap := by
 obtain ⟨a, cap, rfl, _, _, _, _⟩ := h; exact ⟨a, cap, rfl⟩
theorem reads_nil (w : World) (B : Nat) : w.reads B (.slice none 0 0) [] := ⟨none, 0, rfl, fun _ => rfl, Nat.le_refl _, Nat.zero_le _, fun j u hj => by simp at hj⟩
theorem reads_block {w : World} {b B : Nat} {l : List Value} {e : TypeId} {fz : Nat × Nat} (h : w.heap[b]? = some (.cells l.toArray e fz)) (hb : b < B) (c : Nat) (hc : l.length ≤ c) (hm : c ≤ maxLen) :
  w.reads B (.slice (some ⟨b, 0, none⟩) l.length c) l := by
 refine ⟨some ⟨b, 0, none⟩, c, rfl, by simp, hc, hm, fun j u hj => ⟨b, 0, rfl, hb, ?_⟩⟩
 rw [Nat.zero_add, cell_of_row w b j l.toArray e fz h]; simpa using hj
theorem reads_alloc_new (w : World) (l : List Value) (e : TypeId) (c : Nat) (hc : l.length ≤ c) (hm : c ≤ maxLen) : (w.alloc (.cells l.toArray e)).reads (w.heap.size + 1) (.slice (some ⟨w.heap.size, 0, none⟩) l.length c) l :=
 reads_block (heap_alloc_new w _) (Nat.lt_succ_self _) c hc hm
theorem World.reads.drewN {w : World} {B : Nat} {v : Value} {xs : List Value} (h : w.reads B v xs) (n : Nat) : (w.drewN n).reads B v xs := h
theorem World.reads.drew {w : World} {B : Nat} {v : Value} {xs : List Value} (h : w.reads B v xs) : w.drew.reads B v xs := h
theorem World.reads.alloc {w : World} {B : Nat} {v : Value} {xs : List Value} (h : w.reads B v xs) (hB : B ≤ w.heap.size) (o : Obj) : (w.alloc o).reads B v xs := by
 obtain ⟨a, cap, hv, hn, hz, hmx, hc⟩ := h
 refine ⟨a, cap, hv, hn, hz, hmx, fun j u hj => ?_⟩
 obtain ⟨b, off, ha, hb, hcell⟩ := hc j u hj
 exact ⟨b, off, ha, hb, (World.cell?_alloc_lt w o ⟨b, off + j, none⟩ (show b < w.heap.size by omega)).trans hcell⟩
theorem World.reads.take {w : World} {B : Nat} {a : Option Addr} {n c : Nat} {xs : List Value} (h : w.reads B (.slice a n c) xs) (k : Nat) (hk : k ≤ n) : w.reads B (.slice a k c) (xs.take k) := by
 obtain ⟨a', cap, hv, hn, hz, hmx, hc⟩ := h
 injection hv with h1 h2 h3
 subst h1 h3
 refine ⟨a, c, by rw [List.length_take, Nat.min_eq_left (by omega)], hn, by rw [List.length_take]; omega, hmx, fun j u hj => ?_⟩
 rw [List.getElem?_take] at hj
 split at hj
 ·exact hc j u hj
 ·cases hj
theorem quiet_left {P : Program} {f : FuncId} {args : Array Value} {w : World} {n : Nat} {v : Value}
  (h : Calls P f args (w.drewN n) fun e w' => e = .returned v ∧ w.drewN n = w') : Calls P f args (w.drewN n) fun e w'' => e = .returned v ∧ ∃ m, w'' = w.drewN m :=
 h.mono fun _ _ ⟨he, hm⟩ => ⟨he, n, hm.symm⟩
theorem quiet_drew {P : Program} {f : FuncId} {args : Array Value} {w : World} {n : Nat} {v : Value}
  (h : Calls P f args (w.drewN n) fun e w' => e = .returned v ∧ ∃ k, w' = (w.drewN n).drewN k) : Calls P f args (w.drewN n) fun e w'' => e = .returned v ∧ ∃ m, w'' = w.drewN m :=
 h.mono fun _ _ ⟨he, k, hm⟩ => ⟨he, n + k, by rw [hm, World.drewN_drewN]⟩
theorem World.reads.le {w : World} {B : Nat} {v : Value} {xs : List Value} (h : w.reads B v xs) : xs.length ≤ 9223372036854775807 := by
 obtain ⟨a, cap, _, _, hz, hmx, _⟩ := h
 unfold maxLen at hmx; omega
theorem World.reads.le_map {α : Type} {enc : α → Value} {w : World} {B : Nat} {v : Value} {xs : List α} (h : w.reads B v (xs.map enc)) : xs.length ≤ 9223372036854775807 := by
 have := h.le; simpa using this
theorem World.reads.blk {w : World} {B : Nat} {v : Value} {xs : List Value} (h : w.reads B v xs) (h0 : 0 < xs.length) : ∀ a n c b off, v = .slice a n c → a = some ⟨b, off, none⟩ → b < B := by
 intro a n c b off hv ha
 obtain ⟨a', cap, hv', _, _, _, hc⟩ := h
 obtain ⟨b', off', ha', hb, _⟩ := hc 0 xs[0] (List.getElem?_eq_getElem h0)
 rw [hv'] at hv
 injection hv with h1 _ _
 rw [← h1, ha'] at ha
 injection ha with h2
 injection h2 with h3 _ _
 omega
def World.rows {α : Type} (enc : α → Value) (w : World) (B : Nat) (v : Value) (rs : List (List α)) : Prop :=
 ∃ vs : List Value, vs.length = rs.length ∧ w.reads B v vs ∧ ∀ (i : Nat) (r : List α), rs[i]? = some r → ∃ u, vs[i]? = some u ∧ w.reads B u (r.map enc)
theorem World.rows.mapW {α : Type} {enc : α → Value} {w w' : World} {B B' : Nat} {v : Value} {rs : List (List α)} (h : w.rows enc B v rs) (hm : ∀ u xs, w.reads B u xs → w'.reads B' u xs) : w'.rows enc B' v rs := by
 obtain ⟨vs, hl, hr, hi⟩ := h
 exact ⟨vs, hl, hm _ _ hr, fun i r hir => by obtain ⟨u, h1, h2⟩ := hi i r hir; exact ⟨u, h1, hm _ _ h2⟩⟩
theorem World.rows.below {α : Type} {enc : α → Value} {w w' : World} {B : Nat} {v : Value} {rs : List (List α)} (h : w.rows enc B v rs) (hb : Below B w w') : w'.rows enc B v rs := h.mapW fun _ _ hr => hr.below hb
theorem World.rows.mono {α : Type} {enc : α → Value} {w : World} {B B' : Nat} {v : Value} {rs : List (List α)} (h : w.rows enc B v rs) (hb : B ≤ B') : w.rows enc B' v rs := h.mapW fun _ _ hr => hr.mono hb
theorem World.rows.le {α : Type} {enc : α → Value} {w : World} {B : Nat} {v : Value} {rs : List (List α)} (h : w.rows enc B v rs) : rs.length ≤ 9223372036854775807 := by
 obtain ⟨vs, hl, hr, _⟩ := h
 rw [← hl]; exact hr.le
theorem World.rows.shape {α : Type} {enc : α → Value} {w : World} {B : Nat} {v : Value} {rs : List (List α)} (h : w.rows enc B v rs) :
  ∃ a cap, v = .slice a rs.length cap ∧ rs.length ≤ cap ∧ cap ≤ 9223372036854775807 ∧ ∀ (j : Nat) (r : List α), rs[j]? = some r → ∃ b off b2 c2, a = some ⟨b, off, none⟩ ∧ b < B ∧ w.cell? ⟨b, off + j, none⟩ = some (.slice b2 r.length c2) ∧ w.reads B (.slice b2 r.length c2) (r.map enc) := by
 obtain ⟨vs, hl, hr, hi⟩ := h
 obtain ⟨a, cap, rfl, _, hz, hmx, hc⟩ := hr
 refine ⟨a, cap, by rw [hl], by omega, by unfold maxLen at hmx; exact hmx, fun j r hj => ?_⟩
 obtain ⟨u, hu, hur⟩ := hi j r hj
 obtain ⟨b, off, ha, hb, hcell⟩ := hc j u hu
 obtain ⟨b2, c2, rfl, _⟩ := reads_shape hur
 exact ⟨b, off, b2, c2, ha, hb, hcell, hur⟩
end Go
/- Iterators over numbered elements: prefixes; blocks that a round keeps. -/
namespace Go
open RowKit
def fins (N k : Nat) : List (Fin N) := (List.finRange N).take k
theorem fins_succ (N k : Nat) (h : k < N) : fins N (k + 1) = fins N k ++ [⟨k, h⟩] := by
 unfold fins
 rw [List.take_add_one]
 simp [h]
theorem fins_all (N : Nat) : fins N N = List.finRange N := by unfold fins; rw [List.take_of_length_le (by simp)]
theorem fins_length (N k : Nat) (h : k ≤ N) : (fins N k).length = k := by simp [fins]; omega
theorem fins_prefix (N k : Nat) : fins N k <+: List.finRange N := List.take_prefix _ _
def KeepP (S : Nat → Prop) (W W' : World) : Prop := ∀ b, S b → W'.heap[b]? = W.heap[b]?
theorem KeepP.refl {S : Nat → Prop} (W : World) : KeepP S W W := fun _ _ => rfl
theorem KeepP.trans {S : Nat → Prop} {A B C : World} (h : KeepP S A B) (k : KeepP S B C) : KeepP S A C := fun b hb => (k b hb).trans (h b hb)
theorem KeepP.cell {S : Nat → Prop} {W W' : World} (h : KeepP S W W') {b o : Nat} (hb : S b) : W'.cell? ⟨b, o, none⟩ = W.cell? ⟨b, o, none⟩ := World.cell?_of_block (a := ⟨b, o, none⟩) (h b hb)
theorem keepP_b {S : Nat → Prop} {B : Nat} (hS : ∀ b, S b → b < B) (W : World) (l : Nat) (o o' : Obj) (hl : B ≤ l) (h : W.heap[l]? = some o) (_ : o.isCells = false) (_ : o.isWalk = false) : KeepP S W (W.putObj l o') :=
 fun b hb => (grownBy_putObj' W l o').block b (by have := lt_of_heap h; have := hS b hb; omega) (fun e => by cases e; have := hS _ hb; omega)
theorem KeepP.below {S : Nat → Prop} {B : Nat} {W W' : World} (h : Below B W W') (hS : ∀ b, S b → b < B) : KeepP S W W' := fun b hb => h.block b (hS b hb)
theorem KeepP.alloc {S : Nat → Prop} {W W' : World} (h : KeepP S W W') (hS : ∀ b, S b → b < W'.heap.size) (o : Obj) : KeepP S W (W'.alloc o) := fun b hb => (Below.heap_alloc W' o b (hS b hb)).trans (h b hb)
theorem KeepP.setCell {S : Nat → Prop} {W W' : World} (h : KeepP S W W') {a : Addr} (ha : ¬ S a.block) (u : Value) : KeepP S W (W'.setCell a u) := fun b hb => (Below.heap_setCell W' a u b (fun e => ha (e ▸ hb))).trans (h b hb)
theorem KeepP.drewN {S : Nat → Prop} {W W' : World} (h : KeepP S W W') (n : Nat) : KeepP S W (W'.drewN n) := h
theorem KeepP.grown {S : Nat → Prop} {W W' W2 : World} {row : Option Nat} (h : KeepP S W W') (hg : W'.grownBy W2 row) (hS : ∀ b, S b → b < W'.heap.size) (hr : ∀ r, row = some r → ¬ S r) : KeepP S W W2 :=
 fun b hb => (hg.block b (hS b hb) (fun e => hr b e.symm hb)).trans (h b hb)
theorem KeepP.reads {S : Nat → Prop} {W W' : World} {B : Nat} {v : Value} {xs : List Value} (h : KeepP S W W') (hr : W.reads B v xs) (hS : ∀ a n c b off, v = .slice a n c → a = some ⟨b, off, none⟩ → S b) : W'.reads B v xs := by
 obtain ⟨a, cap, hv, hn, hz, hmx, hc⟩ := hr
 refine ⟨a, cap, hv, hn, hz, hmx, fun j u hj => ?_⟩
 obtain ⟨b, off, ha, hb, hcell⟩ := hc j u hj
 exact ⟨b, off, ha, hb, (h.cell (hS _ _ _ _ _ hv ha)).trans hcell⟩
theorem postM_ret {F : Fence} {n : Nat} {P : Program} {fn : Func} {R : Ending → World → Prop} {a : Act} {w : World} {v : Value} (hr : (results fn a.tmps).run P w = .ok v w) (hd : a.defers = []) (hR : R (.returned v) w) : bodyPostM F n P fn R .ret a w := by
 show LeavesInM F n P fn a.tmps R a.defers .returning w
 rw [hd]; exact ⟨v, hr, hR⟩
theorem postM_mark {F : Fence} {n : Nat} {P : Program} {fn : Func} {R : Ending → World → Prop} {a : Act} {w : World} {v : Value} {D : Nat} (hD : w.heap[D]? = some (.deferred (some [])))
  (hr : (results fn a.tmps).run P (w.putObj D (.deferred none)) = .ok v (w.putObj D (.deferred none))) (hd : a.defers = [{ target := .collected D, args := #[] }]) (hR : R (.returned v) (w.putObj D (.deferred none))) : bodyPostM F n P fn R .ret a w := by
 show LeavesInM F n P fn a.tmps R a.defers .returning w
 rw [hd]
 exact ⟨by simp, .inl ⟨_, _, rfl, run_takeDeferred hD, v, hr, hR⟩⟩
theorem heap_putObj_ne {w : World} {D b : Nat} (o : Obj) (h : b ≠ D) : (w.putObj D o).heap[b]? = w.heap[b]? := World.putObj_heap_other h
theorem keepsFrom_below {B : Nat} {W W' : World} (h : Below W.heap.size W W') : KeepsFrom B W W' := ⟨h.size, fun k o _ hk _ => by rw [h.block k (lt_of_heap hk)]; exact hk⟩
theorem keepsFrom_setCell {B : Nat} {W W' : World} (h : KeepsFrom B W W') (a : Addr) (u : Value) : KeepsFrom B W (W'.setCell a u) := h.trans ((KeepsOthers.setCell _ _ _).from B)
theorem keepsFrom_drewN {B : Nat} {W W' : World} (h : KeepsFrom B W W') (n : Nat) : KeepsFrom B W (W'.drewN n) := ⟨h.size, h.same⟩
theorem ownFrom_cells {β : Type} (B : Nat) (p : β → World → Prop) (b : β → Nat) (c : β → Array Value) (t : TypeId) (fz : Nat × Nat) (hp : ∀ s W, p s W → W.heap[b s]? = some (.cells (c s) t fz)) (hq : ∀ s W, W.heap[b s]? = some (.cells (c s) t fz) → p s W) : OwnFrom B p :=
 fun s W W' row hs hg hr => hq s W' (by rw [grownBy_keeps_cells hg (fun r e => (hr r e).2) (hp s W hs) rfl]; exact hp s W hs)
theorem wpIn_range_box {P : Program} {n N : Nat} {g : Operand} {ps : Array Tmp} {assign body : Code} {Q : Exit → Act → World → Prop} {a : Act} {w : World} (h1 : 1 ≤ n) {gf : Nat} {lb : Array Value} (hg : a.eval g = .func (.func gf) #[] lb)
  (eg : ∀ args w, (callFunc gf args).run P w = .ok (.enter gf args) w)
  {encs : Fin N → Array Value} {S : Nat → Prop} (hS : ∀ b, S b → b < w.heap.size) (hseq : SeqStopsK Fence.wide (n - 1) P gf lb encs (KeepP S) (fun ys => ys = List.finRange N) (fun pre => pre <+: List.finRange N) N w)
  (hps : ∀ x, (encs x).size = ps.size) (I : List (Fin N) → World → Prop) (Ix : List (Fin N) → World → Prop) (hI : OwnFrom w.heap.size I) (hIx : OwnFrom w.heap.size Ix) (h0 : I [] w)
  (sets : Fin N → Nat → List (Nat × Value)) (bx : Fin N → Obj) (hbx : ∀ x, (bx x).isCells = true)
  (hassign : ∀ (l : Nat) (pre : List (Fin N)) (x : Fin N) (W : World) (K : Act → World → Prop), I pre W → (∀ c a' W', KeepsFrom w.heap.size W W' → KeepP S W W' → I pre W' → a' = { tmps := (sets x c).foldl (fun t (p : Nat × Value) => t.setIfInBounds p.1 p.2) a.tmps, defers := [] } → W'.heap[c]? = some (bx x) → K a' W') →
   assign.wpIn (Fence.wide.inRound l) (n - 1 - 1) P (Exit.then K (fun _ _ _ => False)) { tmps := (ps.zip (encs x)).foldl (fun t (p, v) => t.setIfInBounds p v) a.tmps, defers := [] } W)
  (hbody : ∀ (l : Nat) (pre : List (Fin N)) (x : Fin N) (c : Nat) (W : World), w.heap.size ≤ l → I pre W → W.heap[c]? = some (bx x) → pre.length < N → body.wpIn (Fence.wide.inRound l) (n - 1 - 1) P (ownPostG w.heap.size (KeepP S) I (fun c pre W => c = .ret ∧ Ix pre W) (pre ++ [x]) W) { tmps := (sets x c).foldl (fun t (p : Nat × Value) => t.setIfInBounds p.1 p.2) a.tmps, defers := [] } W)
  (hdone : ∀ (D : Nat) (W : World), w.heap.size ≤ D → I (List.finRange N) W → W.heap[D]? = some (.deferred (some [])) → Q .normal { a with defers := { target := .collected D, args := #[] } :: a.defers } W)
  (hstop : ∀ (D : Nat) (pre : List (Fin N)) (W : World), w.heap.size ≤ D → pre <+: List.finRange N → Ix pre W → W.heap[D]? = some (.deferred (some [])) → Q .ret { a with defers := { target := .collected D, args := #[] } :: a.defers } W) :
  (Code.rangeFunc g ps assign body).wpIn Fence.wide n P Q a w := by
 refine wpIn_rangeFunc_ownH rfl h1 hg trivial eg hseq (fun h k => h.trans k) (keepP_b hS) (Below.refl _ _) hps I (fun c pre W => c = .ret ∧ Ix pre W) hI (fun c => (ownFrom_pure w.heap.size (fun _ => c = .ret)).and hIx) h0
  (fun x a' W => ∃ c, a' = { tmps := (sets x c).foldl (fun t (p : Nat × Value) => t.setIfInBounds p.1 p.2) a.tmps, defers := [] } ∧ W.heap[c]? = some (bx x)) ?_ ?_ ?_ ?_ ?_
 ·rintro x a' _ W W' row ⟨c, h1, h2⟩ hg hr
  exact ⟨c, h1, by rw [grownBy_keeps_cells hg (fun r e => (hr r e).2) h2 (hbx x)]; exact h2⟩
 ·intro l pre x W K hp hK
  exact hassign l pre x W K hp (fun c a' W' k1 k2 k3 k4 k5 => hK a' W' k1 k2 k3 ⟨c, k4, k5⟩)
 ·rintro l pre x a' W hl _ hp ⟨c, rfl, hc⟩ hN
  exact hbody l pre x c W hl hp hc hN
 ·rintro D xs W hD rfl hi hd
  exact hdone D W hD hi hd
 ·rintro D c pre W hD hpre ⟨rfl, hi⟩ hd
  exact wpIn_ret (hstop D pre W hD hpre hi hd)
theorem wpIn_range_tmp {P : Program} {n N : Nat} {g : Operand} {ps : Array Tmp} {assign body : Code} {Q : Exit → Act → World → Prop} {a : Act} {w : World} (h1 : 1 ≤ n) {gf : Nat} {lb : Array Value} (hg : a.eval g = .func (.func gf) #[] lb)
  (eg : ∀ args w, (callFunc gf args).run P w = .ok (.enter gf args) w)
  {encs : Fin N → Array Value} {S : Nat → Prop} (hS : ∀ b, S b → b < w.heap.size) (hseq : SeqStopsK Fence.wide (n - 1) P gf lb encs (KeepP S) (fun ys => ys = List.finRange N) (fun pre => pre <+: List.finRange N) N w)
  (hps : ∀ x, (encs x).size = ps.size) (I : List (Fin N) → World → Prop) (Ix : List (Fin N) → World → Prop) (hI : OwnFrom w.heap.size I) (hIx : OwnFrom w.heap.size Ix) (h0 : I [] w)
  (sets : Fin N → List (Nat × Value))
  (hassign : ∀ (l : Nat) (_ : List (Fin N)) (x : Fin N) (W : World) (K : Act → World → Prop), (∀ a', a' = { tmps := (sets x).foldl (fun t (p : Nat × Value) => t.setIfInBounds p.1 p.2) a.tmps, defers := [] } → K a' W) →
   assign.wpIn (Fence.wide.inRound l) (n - 1 - 1) P (Exit.then K (fun _ _ _ => False)) { tmps := (ps.zip (encs x)).foldl (fun t (p, v) => t.setIfInBounds p v) a.tmps, defers := [] } W)
  (hbody : ∀ (l : Nat) (pre : List (Fin N)) (x : Fin N) (W : World), w.heap.size ≤ l → I pre W → pre.length < N → body.wpIn (Fence.wide.inRound l) (n - 1 - 1) P (ownPostG w.heap.size (KeepP S) I (fun c pre W => c = .ret ∧ Ix pre W) (pre ++ [x]) W) { tmps := (sets x).foldl (fun t (p : Nat × Value) => t.setIfInBounds p.1 p.2) a.tmps, defers := [] } W)
  (hdone : ∀ (D : Nat) (W : World), w.heap.size ≤ D → I (List.finRange N) W → W.heap[D]? = some (.deferred (some [])) → Q .normal { a with defers := { target := .collected D, args := #[] } :: a.defers } W)
  (hstop : ∀ (D : Nat) (pre : List (Fin N)) (W : World), w.heap.size ≤ D → pre <+: List.finRange N → Ix pre W → W.heap[D]? = some (.deferred (some [])) → Q .ret { a with defers := { target := .collected D, args := #[] } :: a.defers } W) :
  (Code.rangeFunc g ps assign body).wpIn Fence.wide n P Q a w := by
 refine wpIn_rangeFunc_ownH rfl h1 hg trivial eg hseq (fun h k => h.trans k) (keepP_b hS) (Below.refl _ _) hps I (fun c pre W => c = .ret ∧ Ix pre W) hI (fun c => (ownFrom_pure w.heap.size (fun _ => c = .ret)).and hIx) h0
  (fun x a' _ => a' = { tmps := (sets x).foldl (fun t (p : Nat × Value) => t.setIfInBounds p.1 p.2) a.tmps, defers := [] }) ?_ ?_ ?_ ?_ ?_
 ·rintro x a' _ W W' row h1 hg hr
  exact h1
 ·intro l pre x W K hp hK
  exact hassign l pre x W K (fun a' k => hK a' W (KeepsFrom.refl _ _) (KeepP.refl _) hp k)
 ·rintro l pre x a' W hl _ hp rfl hN
  exact hbody l pre x W hl hp hN
 ·rintro D xs W hD rfl hi hd
  exact hdone D W hD hi hd
 ·rintro D c pre W hD hpre ⟨rfl, hi⟩ hd
  exact wpIn_ret (hstop D pre W hD hpre hi hd)
/-! ### A region that draws its order and only reads, within a round -/
def noDefer (ops : Array Oper) : Bool := ops.all fun o => match o.op with | .defer _ => false | _ => true
theorem noDefer_spec {ops : Array Oper} (h : noDefer ops = true) (i : Nat) (o : Oper) (hi : ops[i]? = some o) : ∀ c, o.op ≠ .defer c := by
 intro c hc
 unfold noDefer at h
 rw [Array.all_eq_true] at h
 obtain ⟨hlt, rfl⟩ := Array.getElem?_eq_some_iff.1 hi
 have := h i hlt
 rw [hc] at this
 cases this
section
variable {P : Program} {ops : Array Oper} {md : Region.Mode} {C : World → Prop}
theorem wpInR_of_quiet {n l : Nat} {o : Oper} {a : Act} {K : Act → Prop} {K' : Act → World → Prop} {Q' : Exit → Act → World → Prop} {w : World} (hd : ∀ c, o.op ≠ .defer c) (hw : C w) (h : ∀ a w', C w' → K a → K' a w')
  (hh : o.quiet P a C K) : o.wpIn (Fence.wide.inRound l) n P a w K' Q' := by
 obtain ⟨v, h1, h2⟩ := hh
 have h3 := h1 w hw
 unfold Oper.quietAt at h3
 unfold Oper.wpIn
 refine ⟨fun _ _ => trivial, ?_⟩
 rw [Oper.semAt_eq _ _ _ hd]
 generalize (execOp a.eval o).run P w = r at *
 cases r with
 | ok x w' =>
  cases x <;> simp only [Oper.quietUpon] at h3 <;> simp only [Oper.uponIn]
  case value u =>
   obtain ⟨e1, e2⟩ := h3
   rw [e1, e2]
   exact h _ _ hw h2
  case skip =>
   obtain ⟨e1, e2⟩ := h3
   rw [e1, ← e2]
   exact h _ _ hw h2
  case enter f args =>
   obtain ⟨e1, hc⟩ := h3
   rw [e1]
   exact ⟨fun h => by simp [Fence.wide, Fence.inRound] at h, (CallsIn.inRound l (callsIn_wide.2 hc)).mono fun e w'' ⟨he, hw''⟩ => by subst he; exact h _ _ hw'' h2⟩
 | halt x w' => simp only [Oper.quietUpon] at h3
theorem wpOpInR_of_qOp {n l i : Nat} {a : Act} {K : Act → Prop} {K' : Act → World → Prop} {Q' : Exit → Act → World → Prop} {w : World} (hnd : noDefer ops = true) (hC : C w) (h : ∀ a w', C w' → K a → K' a w')
  (hh : qOp P ops C i K a) : wpOpIn (Fence.wide.inRound l) n P ops Q' i K' a w := by
 unfold qOp at hh
 unfold wpOpIn
 split
 ·rename_i ho; simp only [ho] at hh; exact h _ _ hC hh
 ·rename_i o ho
  simp only [ho] at hh
  split
  ·rename_i hw; simp only [hw, if_true] at hh; exact wpInR_of_quiet (noDefer_spec hnd i o ho) hC h hh
  ·rename_i hw; simp only [hw] at hh; exact ⟨fun _ _ => trivial, h _ _ hC hh⟩
theorem wpAnyInR_of_quiet {n l : Nat} {Q : Act → Prop} {Q' : Exit → Act → World → Prop} (hnd : noDefer ops = true) (hQ : ∀ a w, C w → Q a → Q' .normal a w) : ∀ (fuel : Nat) (listed : Array Bool) (a : Act) (w : World), C w →
  wpAnyQ P md ops C Q fuel listed a → wpAnyIn (Fence.wide.inRound l) n P md ops Q' fuel listed a w
 | 0, _, _, _, hw, h => ⟨h.1, hQ _ _ hw h.2⟩
 | fuel + 1, _, _, _, hw, h => ⟨fun h0 => hQ _ _ hw (h.1 h0), fun i hi => wpOpInR_of_qOp hnd hw (fun a' w' hw' => wpAnyInR_of_quiet hnd hQ fuel _ a' w' hw') (h.2 i hi)⟩
theorem wpInR_region_quiet {n l id k : Nat} {Q : Exit → Act → World → Prop} {a : Act} {w : World} {os : List Oper} (hm : P.follows .mixedOrders = true) (hB : Region.lexB .any os.toArray = true) (hnd : noDefer os.toArray = true)
  (h : wpQuiet P os.toArray (fun w' => ∃ n, w' = w.drewN n) (fun a' => ∀ w', (∃ n, w' = w.drewN n) → Q .normal a' w') os a) : (Code.region id os.toArray true).wpIn (Fence.wide.inRound l) n P Q a (w.drewN k) := by
 simp only [Region.lexB, Bool.and_eq_true] at hB
 refine wpIn_region_any hm (wpAnyInR_of_quiet (C := fun w' => ∃ n, w' = w.drewN n) (Q := fun a' => ∀ w', (∃ n, w' = w.drewN n) → Q .normal a' w') hnd (fun _ w' hw' h => h w' hw') _ _ _ _ ⟨k + 1, rfl⟩ ?_)
 have := wpAnyQ_lex (C := fun w' => ∃ n, w' = w.drewN n) (md := .any) hB.1 os 0 (Array.replicate os.toArray.size false) a (by simp) (by simpa using hB.2) h
 simpa using this
theorem wpInR_region_quiet0 {n l id : Nat} {Q : Exit → Act → World → Prop} {a : Act} {w : World} {os : List Oper} (hm : P.follows .mixedOrders = true) (hB : Region.lexB .any os.toArray = true) (hnd : noDefer os.toArray = true)
  (h : wpQuiet P os.toArray (fun w' => ∃ n, w' = w.drewN n) (fun a' => ∀ w', (∃ n, w' = w.drewN n) → Q .normal a' w') os a) : (Code.region id os.toArray true).wpIn (Fence.wide.inRound l) n P Q a w :=
 wpInR_region_quiet (k := 0) hm hB hnd h
end
theorem grownBy_trans {a b c : World} {row : Option Nat} (h : a.grownBy b row) (k : b.grownBy c row) : a.grownBy c row :=
 ⟨k.os.trans h.os, k.tape.trans h.tape, k.output.trans h.output, Nat.le_trans h.size k.size, fun i hi hne => (k.block i (Nat.lt_of_lt_of_le hi h.size) hne).trans (h.block i hi hne)⟩
/-! ### append of one element, which the statement lays into a block of its own -/
section
variable {P : Program} (W : World)
theorem wpListIn_append1 {F : Fence} {m : Nat} {ops : Array Oper} {rest : List Oper} {o : Oper} {a : Act} {Q : Exit → Act → World → Prop} (hg : o.guard = none) (s x : Operand) (t : TypeId)
  (hop : o.op = .call { callee := .builtin .append, args := #[s, x], argTypes := #[t, t] })
  (base : Nat) (e : TypeId) (i : TypeInfo) (z : Value) (bytes : Nat) (ht : P.underlying t = some (.slice e)) (hi : P.info? e = some i) (hz : i.zero = some z)
  (hsize : i.size = 1) (hby : i.bytes = bytes) (hzs : z.cells.size = 1)
  (v : Value) (n : Nat) (xs : List Value) (hs : a.eval s = v) (hown : W.owns base e 1 v n xs) (u : Value) (H : Nat) (hH : W.heap.size = H) (hx : a.eval x = .slice (some ⟨H, 0, none⟩) 1 1) (h1 : u.oneCell' = true)
  (h63 : n + 1 ≤ maxLen) (hbytes : (n + 1) * bytes ≤ 140737488355328) (hbase : base ≤ W.heap.size)
  (h : ∀ v' w', w'.owns base e 1 v' (n + 1) (xs ++ [u]) → (W.alloc (.cells #[u] e)).grownBy w' v.ownBlock → W.grownBy w' v.ownBlock → W.heap.size < w'.heap.size → wpListIn F m P ops Q rest (a.put o.dst v') w') : wpListIn F m P ops Q (o :: rest) a (W.alloc (.cells #[u] e)) := by
 subst hH
 refine wpListIn_plain hg fun K hK' => ?_
 obtain ⟨v', w', hrun, h2, h3, _⟩ := run_append_owns (P := P) (W.alloc (.cells #[u] e)) base t o.type e i z 1 bytes ht hi hz hsize hby hzs (by decide) v n xs (hown.alloc _) ⟨W.heap.size, 0, none⟩ 1 1 [u] rfl (news_alloc W [u] e) (by simpa using h1) h63 hbytes (by simp; omega)
 unfold Oper.wpIn
 refine ⟨?_, ?_⟩
 ·simp [Oper.about, hop, resolve, Target.leads, Sem.run_pure]
 ·rw [Oper.semAt_plain F _ _ (by rw [hop]; intro c hc'; cases hc')]
  simp [execOp, hop, resolve, invoke, builtin, hs, hx, hrun, Result.andThen]
  exact hK' _ _ (h v' w' h2 h3 (grownBy_trans (World.grownBy_alloc W _ _) h3) (by have := h3.size; simp at this; omega))
theorem wpList_append1 {ops : Array Oper} {rest : List Oper} {o : Oper} {a : Act} {Q : Exit → Act → World → Prop} (hg : o.guard = none) (s x : Operand) (t : TypeId)
  (hop : o.op = .call { callee := .builtin .append, args := #[s, x], argTypes := #[t, t] })
  (base : Nat) (e : TypeId) (i : TypeInfo) (z : Value) (bytes : Nat) (ht : P.underlying t = some (.slice e)) (hi : P.info? e = some i) (hz : i.zero = some z)
  (hsize : i.size = 1) (hby : i.bytes = bytes) (hzs : z.cells.size = 1)
  (v : Value) (n : Nat) (xs : List Value) (hs : a.eval s = v) (hown : W.owns base e 1 v n xs) (u : Value) (H : Nat) (hH : W.heap.size = H) (hx : a.eval x = .slice (some ⟨H, 0, none⟩) 1 1) (h1 : u.oneCell' = true)
  (h63 : n + 1 ≤ maxLen) (hbytes : (n + 1) * bytes ≤ 140737488355328) (hbase : base ≤ W.heap.size)
  (h : ∀ v' w', w'.owns base e 1 v' (n + 1) (xs ++ [u]) → (W.alloc (.cells #[u] e)).grownBy w' v.ownBlock → W.grownBy w' v.ownBlock → W.heap.size < w'.heap.size → wpList P ops Q rest (a.put o.dst v') w') : wpList P ops Q (o :: rest) a (W.alloc (.cells #[u] e)) := by
 subst hH
 refine wpList_plain hg fun K hK' => ?_
 obtain ⟨v', w', hrun, h2, h3, _⟩ := run_append_owns (P := P) (W.alloc (.cells #[u] e)) base t o.type e i z 1 bytes ht hi hz hsize hby hzs (by decide) v n xs (hown.alloc _) ⟨W.heap.size, 0, none⟩ 1 1 [u] rfl (news_alloc W [u] e) (by simpa using h1) h63 hbytes (by simp; omega)
 unfold Oper.wp execOp
 simp only [hop, resolve, invoke, builtin, Sem.run_bind, Sem.run_pure, Result.andThen_ok, List.map_toArray, List.map_cons, List.map_nil, hs, hx, hrun]
 exact hK' _ _ (h v' w' h2 h3 (grownBy_trans (World.grownBy_alloc W _ _) h3) (by have := h3.size; simp at this; omega))
end
theorem World.owns.keptBy {w w' : World} {base : Nat} {e : TypeId} {size : Nat} {v : Value} {n : Nat} {xs : List Value} (h : w.owns base e size v n xs) (hk : ∀ (g : Nat) (c : Array Value) (fz : Nat × Nat), v.ownBlock = some g → w.heap[g]? = some (.cells c e fz) → w'.heap[g]? = w.heap[g]?) : w'.owns base e size v n xs := by
 refine ⟨h.1, ?_⟩
 rcases h.2 with hn | ⟨g, cap, cur, fz, rfl, hb, hgg, rest⟩
 ·exact .inl hn
 ·exact .inr ⟨g, cap, cur, fz, rfl, hb, (hk g cur fz rfl hgg).trans hgg, rest⟩
end Go
/- A region that draws its order, reads and at its end stores, within a round. -/
namespace Go
open RowKit
def lastB (ops : Array Oper) (L : Nat) : Bool := (List.range L).all fun i => ((ops[L]?).map fun o => o.after.any fun e => Region.binds .any e && e.on == i).getD false
theorem yielded_congr {ops ops' : Array Oper} (hd : ∀ i : Nat, (ops[i]?).bind (·.dst) = (ops'[i]?).bind (·.dst)) (t : Array Value) : yielded ops t = yielded ops' t := by
 funext j; unfold yielded; rw [hd]
end Go
/- append of a slice that reads as a list, nil or not, to a row that is owned. -/
namespace Go
open RowKit
section
variable {P : Program} (w : World)
theorem run_append_none (base : Nat) (t ty e : TypeId) (i : TypeInfo) (ht : P.underlying t = some (.slice e)) (hi : P.info? e = some i)
  (v : Value) (n : Nat) (xs : List Value) (hown : w.owns base e 1 v n xs) (c : Nat) : (Builtin.append_ #[t, t] ty #[v, .slice none 0 c]).run P w = .ok v w := by
 rcases hown.2 with ⟨rfl, rfl⟩ | ⟨g, cap, cur, fz, rfl, _, _, _, hnc, _⟩
 ·simp [Builtin.append_, run_underlying ht, sizeOf, typeInfo, hi, Builtin.lenOf, Builtin.firstCells]
 ·simp [Builtin.append_, run_underlying ht, sizeOf, typeInfo, hi, Builtin.lenOf, Builtin.firstCells, hnc, storeCells]
theorem run_append_reads (base : Nat) (t ty e : TypeId) (i : TypeInfo) (z : Value) (bytes : Nat) (ht : P.underlying t = some (.slice e)) (hi : P.info? e = some i) (hz : i.zero = some z)
  (hsize : i.size = 1) (hby : i.bytes = bytes) (hzs : z.cells.size = 1)
  (v : Value) (n : Nat) (xs : List Value) (hown : w.owns base e 1 v n xs)
  (B : Nat) (x : Value) (news : List Value) (hr : w.reads B x news) (h1 : ∀ u ∈ news, u.oneCell' = true)
  (h63 : n + news.length ≤ maxLen) (hbytes : (n + news.length) * bytes ≤ 140737488355328) (hbase : base ≤ w.heap.size) :
  ∃ v' w', (Builtin.append_ #[t, t] ty #[v, x]).run P w = .ok v' w' ∧ w'.owns base e 1 v' (n + news.length) (xs ++ news) ∧ w.grownBy w' v.ownBlock := by
 obtain ⟨a, cap, rfl, hn, hz1, hmx, hc⟩ := hr
 cases a with
 | none =>
  have hcap := hn rfl
  have hn0 : news.length = 0 := by omega
  have : news = [] := List.eq_nil_of_length_eq_zero hn0
  subst this
  exact ⟨v, w, run_append_none w base t ty e i ht hi v n xs hown cap, by simpa using hown, World.grownBy.refl w _⟩
 | some ad =>
  have hcells : ∀ j u, news[j]? = some u → w.cell? (ad.add j) = some u := by
   intro j u hj
   obtain ⟨b, off, ha, _, h4⟩ := hc j u hj
   injection ha with ha
   subst ha
   have : (⟨b, off, none⟩ : Addr).add j = ⟨b, off + j, none⟩ := by unfold Addr.add; split <;> simp_all
   rw [this]; exact h4
  obtain ⟨v', w', hrun, h2, h3, _⟩ := run_append_owns (P := P) w base t ty e i z 1 bytes ht hi hz hsize hby hzs (by decide) v n xs hown ad news.length cap news (by simp) hcells h1 h63 hbytes hbase
  exact ⟨v', w', hrun, h2, h3⟩
theorem wpList_append_reads {ops : Array Oper} {rest : List Oper} {o : Oper} {a : Act} {Q : Exit → Act → World → Prop} (hgd : o.guard = none) (s x : Operand) (t : TypeId)
  (ho : o.op = .call { callee := .builtin .append, args := #[s, x], argTypes := #[t, t] })
  (base : Nat) (e : TypeId) (i : TypeInfo) (z : Value) (bytes : Nat) (ht : P.underlying t = some (.slice e)) (hi : P.info? e = some i) (hz : i.zero = some z)
  (hsize : i.size = 1) (hby : i.bytes = bytes) (hzs : z.cells.size = 1)
  (v : Value) (n : Nat) (xs : List Value) (hs : a.eval s = v) (hown : w.owns base e 1 v n xs)
  (B : Nat) (xv : Value) (news : List Value) (hx : a.eval x = xv) (hr : w.reads B xv news) (h1 : ∀ u ∈ news, u.oneCell' = true)
  (h63 : n + news.length ≤ maxLen) (hbytes : (n + news.length) * bytes ≤ 140737488355328) (hbase : base ≤ w.heap.size)
  (h : ∀ v' w', w'.owns base e 1 v' (n + news.length) (xs ++ news) → w.grownBy w' v.ownBlock → wpList P ops Q rest (a.put o.dst v') w') : wpList P ops Q (o :: rest) a w := by
 refine wpList_plain hgd fun K hK => ?_
 obtain ⟨v', w', hrun, h2, h3⟩ := run_append_reads (P := P) w base t o.type e i z bytes ht hi hz hsize hby hzs v n xs hown B xv news hr h1 h63 hbytes hbase
 unfold Oper.wp execOp
 simp only [ho, resolve, invoke, builtin, Sem.run_bind, Sem.run_pure, Result.andThen_ok, List.map_toArray, List.map_cons, List.map_nil, hs, hx, hrun]
 exact hK _ _ (h v' w' h2 h3)
end
theorem below_grown {w w' : World} {base : Nat} {e : TypeId} {v : Value} {n : Nat} {xs : List Value} {size : Nat} (h : w.owns base e size v n xs) (hg : w.grownBy w' v.ownBlock) (B : Nat) (hB : B ≤ base) (hBs : B ≤ w.heap.size) : Below B w w' :=
 ⟨hg.os, hg.tape, hg.output, hg.size, fun i hi => hg.block i (by omega) (fun e => by have := (h.lt i e.symm).1; omega)⟩
end Go
/- Rows that a function makes and appends to a list of its own. -/
namespace Go
open RowKit
def World.rowsO {α : Type} (enc : α → Value) (w : World) (base : Nat) (T e : TypeId) (v : Value) (rows : List (List α)) : Prop :=
 ∃ vs : List Value, vs.length = rows.length ∧ w.owns base T 1 v rows.length vs ∧ ∀ (i : Nat) (r : List α), rows[i]? = some r → ∃ u, vs[i]? = some u ∧ w.owns base e 1 u r.length (r.map enc)
section
variable {α : Type} {enc : α → Value} {w w' : World} {base base' : Nat} {T e : TypeId} {v : Value} {rs : List (List α)}
theorem World.rowsO_nil (w : World) (base : Nat) (T e : TypeId) : w.rowsO enc base T e (.slice none 0 0) [] := ⟨[], rfl, World.owns_nil _ _ _ _, fun i r h => by simp at h⟩
theorem World.rowsO.below (h : w.rowsO enc base T e v rs) (hb : Below w.heap.size w w') : w'.rowsO enc base T e v rs := by
 obtain ⟨vs, h1, h2, h3⟩ := h
 exact ⟨vs, h1, h2.below hb, fun i r hr => by obtain ⟨u, k1, k2⟩ := h3 i r hr; exact ⟨u, k1, k2.below hb⟩⟩
theorem World.rowsO.mono (h : w.rowsO enc base T e v rs) (hb : base' ≤ base) : w.rowsO enc base' T e v rs := by
 obtain ⟨vs, h1, h2, h3⟩ := h
 exact ⟨vs, h1, h2.mono hb, fun i r hr => by obtain ⟨u, k1, k2⟩ := h3 i r hr; exact ⟨u, k1, k2.mono hb⟩⟩
theorem World.rowsO.setCell (h : w.rowsO enc base T e v rs) {a : Addr} (ha : a.block < base) (x : Value) : (w.setCell a x).rowsO enc base T e v rs := by
 obtain ⟨vs, h1, h2, h3⟩ := h
 exact ⟨vs, h1, h2.setCell ha x, fun i r hr => by obtain ⟨u, k1, k2⟩ := h3 i r hr; exact ⟨u, k1, k2.setCell ha x⟩⟩
theorem World.rowsO.rows (h : w.rowsO enc base T e v rs) : w.rows enc w.heap.size v rs := by
 obtain ⟨vs, h1, h2, h3⟩ := h
 exact ⟨vs, h1, h2.reads, fun i r hr => by obtain ⟨u, k1, k2⟩ := h3 i r hr; exact ⟨u, k1, k2.reads⟩⟩
theorem World.rowsO.open_ (h : w.rowsO enc base T e v rs) : ∃ a c, v = .slice a rs.length c := by
 obtain ⟨vs, h1, h2, _⟩ := h
 obtain ⟨a, c, hv⟩ := reads_len h2.reads
 exact ⟨a, c, by rw [hv, h1]⟩
theorem World.rowsO.push (hT : T ≠ e) (h : w.rowsO enc base T e v rs) {u v4 : Value} {W4 : World} {r : List α} (hu : w.owns base e 1 u r.length (r.map enc))
  (hown4 : ∀ vs, w.owns base T 1 v rs.length vs → W4.owns base T 1 v4 (rs.length + 1) (vs ++ [u])) (hg : w.grownBy W4 v.ownBlock) : W4.rowsO enc base T e v4 (rs ++ [r]) := by
 obtain ⟨vs, h1, h2, h3⟩ := h
 have hk : ∀ {n : Nat} {x : Value} {xs : List Value}, w.owns base e 1 x n xs → W4.owns base e 1 x n xs := by
  intro n x xs hx
  refine hx.kept hg ?_
  rcases h2.2 with ⟨rfl, _⟩ | ⟨g, cap, cur, fz, rfl, _, hgg, _⟩
  ·cases hxo : x.ownBlock
   ·exact .inl rfl
   ·exact .inr (by simp [Value.ownBlock])
  ·exact .inr (hx.ne hgg hT)
 refine ⟨vs ++ [u], by simp [h1], by simpa using hown4 vs h2, fun i y hj => ?_⟩
 rcases Nat.lt_trichotomy i rs.length with hlt | rfl | hgt
 ·rw [List.getElem?_append_left hlt] at hj
  obtain ⟨u', k1, k2⟩ := h3 i y hj
  exact ⟨u', by rw [List.getElem?_append_left (by rw [h1]; exact hlt)]; exact k1, hk k2⟩
 ·rw [List.getElem?_append_right (Nat.le_refl _)] at hj
  simp at hj
  subst hj
  exact ⟨u, by rw [← h1, List.getElem?_append_right (Nat.le_refl _)]; simp, hk hu⟩
 ·rw [List.getElem?_append_right (by omega)] at hj
  have : i - rs.length ≠ 0 := by omega
  obtain ⟨m, hm⟩ := Nat.exists_eq_succ_of_ne_zero this
  rw [hm] at hj
  simp at hj
end
def Value.freeOf (S : Nat → Prop) (v : Value) : Prop := ∀ k, v.ownBlock = some k → ¬ S k
theorem World.owns.at_ {w : World} {base n : Nat} {e : TypeId} {v : Value} {xs : List Value} (h : w.owns base e 1 v n xs) : ∃ a c, v = .slice a n c ∧ n ≤ c ∧ c ≤ 9223372036854775807 ∧
  ∀ (k : Nat) (x : Value), xs[k]? = some x → ∃ b, a = some ⟨b, 0, none⟩ ∧ base ≤ b ∧ b < w.heap.size ∧ w.cell? ⟨b, k, none⟩ = some x := by
 have h' := h
 rcases h.2 with ⟨rfl, rfl⟩ | ⟨g, cap, cur, fz, rfl, hbg, hg, _, hnc, hcm, _⟩
 ·have : xs = [] := List.eq_nil_of_length_eq_zero (by simpa using h.1)
  subst this
  exact ⟨none, 0, rfl, Nat.le_refl _, Nat.zero_le _, fun k x hk => by simp at hk⟩
 ·exact ⟨_, cap, rfl, hnc, by unfold maxLen at hcm; exact hcm, fun k x hk => ⟨g, rfl, hbg, lt_of_heap hg, h'.cell k x hk⟩⟩
section
variable {P : Program} {W : World} {ops : Array Oper} {rest : List Oper} {o : Oper} {a : Act} {Q : Exit → Act → World → Prop}
theorem below_own {base n : Nat} {e : TypeId} {v : Value} {xs : List Value} {W4 : World} (h : W.owns base e 1 v n xs) (hg : W.grownBy W4 v.ownBlock) : ∀ B0 w0, Below B0 w0 W → B0 ≤ base → B0 ≤ W.heap.size → Below B0 w0 W4 :=
 fun B0 _ hB h1 h2 => hB.grown hg h2 (fun k hk => by have := (h.lt k hk).1; omega)
theorem run_append_fresh (w : World) (base : Nat) (t ty e : TypeId) (i : TypeInfo) (z : Value) (bytes : Nat) (ht : P.underlying t = some (.slice e)) (hi : P.info? e = some i) (hz : i.zero = some z)
  (hsize : i.size = 1) (hby : i.bytes = bytes) (hzs : z.cells.size = 1)
  (v : Value) (n : Nat) (xs : List Value) (hown : w.owns base e 1 v n xs)
  (a : Addr) (m c : Nat) (news : List Value) (hl : news.length = m) (hnews : ∀ j u, news[j]? = some u → w.cell? (a.add j) = some u) (h1 : ∀ u ∈ news, u.oneCell' = true)
  (h63 : n + m ≤ maxLen) (hbytes : (n + m) * bytes ≤ 140737488355328) (hbase : base ≤ w.heap.size) :
  ∃ v' w', (Builtin.append_ #[t, t] ty #[v, .slice (some a) m c]).run P w = .ok v' w' ∧ w'.owns base e 1 v' (n + m) (xs ++ news) ∧ w.grownBy w' v.ownBlock ∧ (v'.ownBlock = v.ownBlock ∨ ∀ k, v'.ownBlock = some k → w.heap.size ≤ k) := by
 rcases hown.2 with ⟨rfl, rfl⟩ | ⟨g, cap, cur, fz, rfl, hbg, hg, hfz, hnc, hcm, hcs, htake⟩
 ·have hxs : xs = [] := List.eq_nil_of_length_eq_zero (by simpa using hown.1)
  subst hxs
  obtain ⟨v', w', h1, h2, h3, h4⟩ := run_append_owns (P := P) w w.heap.size t ty e i z 1 bytes ht hi hz hsize hby hzs (by decide) (.slice none 0 0) 0 [] (World.owns_nil _ _ _ _) a m c news (by simpa using hl) hnews h1 h63 hbytes (Nat.le_refl _)
  exact ⟨v', w', h1, h2.mono hbase, h3, .inr (fun k hk => (h2.lt k hk).1)⟩
 ·subst hby
  have hsmall : n + m ≤ 9223372036854775807 := by simp only [maxLen] at h63; omega
  by_cases hroom : n + m ≤ cap
  ·have hfit : n * i.size + news.length ≤ cur.size := by rw [hsize]; omega
   have hr := run_append_room_fz (P := P) w t ty e i ht hi g n cap cur fz hg hfz a m c news (by rw [hsize]; omega) hnews h1 hroom hfit
   obtain ⟨v', w', k1, k2, k3, k4⟩ := run_append_owns (P := P) w base t ty e i z 1 i.bytes ht hi hz hsize rfl hzs (by decide) _ n xs hown a m c news (by simpa using hl) hnews h1 h63 hbytes hbase
   refine ⟨v', w', k1, k2, k3, .inl ?_⟩
   rw [hr] at k1
   injection k1 with e1 _
   rw [← e1]; rfl
  ·have holds : ∀ j u, xs[j]? = some u → w.cell? ((⟨g, 0, none⟩ : Addr).add j) = some u := hown.cells (g := g) rfl
   have hr := run_append_grow (P := P) w t ty e i z ht hi hz ⟨g, 0, none⟩ n cap xs (by rw [hsize]; exact hown.1) holds a m c news (by rw [hsize]; omega) hnews (by omega) (by omega) (growslice_fits (by omega) hbytes)
   obtain ⟨v', w', k1, k2, k3, k4⟩ := run_append_owns (P := P) w base t ty e i z 1 i.bytes ht hi hz hsize rfl hzs (by decide) _ n xs hown a m c news (by simpa using hl) hnews h1 h63 hbytes hbase
   refine ⟨v', w', k1, k2, k3, .inr fun k hk => ?_⟩
   rw [hr] at k1
   injection k1 with e1 _
   rw [← e1] at hk
   simp [Value.ownBlock] at hk
   omega
theorem keep_push {v v' : Value} {W4 : World} (hg : W.grownBy W4 v.ownBlock) (hf : v'.ownBlock = v.ownBlock ∨ ∀ k, v'.ownBlock = some k → W.heap.size ≤ k) :
  ∀ S W0, KeepP S W0 W → (∀ b, S b → b < W.heap.size) → v.freeOf S → KeepP S W0 W4 ∧ v'.freeOf S := by
 intro S W0 hk hS hv
 refine ⟨hk.grown hg hS hv, fun k e hs => ?_⟩
 rcases hf with hf | hf
 ·rw [hf] at e; exact hv k e hs
 ·have := hf k e; have := hS k hs; omega
theorem wpList_push1 (hg : o.guard = none) (s x : Operand) (t : TypeId)
  (hop : o.op = .call { callee := .builtin .append, args := #[s, x], argTypes := #[t, t] })
  (base : Nat) (e : TypeId) (i : TypeInfo) (z : Value) (bytes : Nat) (ht : P.underlying t = some (.slice e)) (hi : P.info? e = some i) (hz : i.zero = some z)
  (hsize : i.size = 1) (hby : i.bytes = bytes) (hzs : z.cells.size = 1)
  (v : Value) (n : Nat) (xs : List Value) (hs : a.eval s = v) (hown : W.owns base e 1 v n xs) (u : Value) (H : Nat) (hH : W.heap.size = H) (hx : a.eval x = .slice (some ⟨H, 0, none⟩) 1 1) (h1 : u.oneCell' = true)
  (h63 : n + 1 ≤ maxLen) (hbytes : (n + 1) * bytes ≤ 140737488355328) (hbase : base ≤ W.heap.size)
  (h : ∀ v' w', w'.owns base e 1 v' (n + 1) (xs ++ [u]) → W.heap.size < w'.heap.size → (∀ B0 w0, Below B0 w0 W → B0 ≤ base → Below B0 w0 w') → wpList P ops Q rest (a.put o.dst v') w') : wpList P ops Q (o :: rest) a (W.alloc (.cells #[u] e)) :=
 wpList_append1 W hg s x t hop base e i z bytes ht hi hz hsize hby hzs v n xs hs hown u H hH hx h1 h63 hbytes hbase
  fun v' w' h2 _ h4 h5 => h v' w' h2 h5 (fun B0 w0 hB hb => below_own hown h4 B0 w0 hB hb (by omega))
theorem run_pushRow {α : Type} {enc : α → Value} (base : Nat) (t ty T e : TypeId) (hT : T ≠ e) (i : TypeInfo) (z : Value) (bytes : Nat) (ht : P.underlying t = some (.slice T)) (hi : P.info? T = some i) (hz : i.zero = some z)
  (hsize : i.size = 1) (hby : i.bytes = bytes) (hzs : z.cells.size = 1)
  (v : Value) (rows : List (List α)) (hown : W.rowsO enc base T e v rows) (u : Value) (r : List α) (hu : W.owns base e 1 u r.length (r.map enc)) (h1 : u.oneCell' = true)
  (h63 : rows.length + 1 ≤ maxLen) (hbytes : (rows.length + 1) * bytes ≤ 140737488355328) (hbase : base ≤ W.heap.size) :
  ∃ v' w', (Builtin.append_ #[t, t] ty #[v, .slice (some ⟨W.heap.size, 0, none⟩) 1 1]).run P (W.alloc (.cells #[u] T)) = .ok v' w' ∧ w'.rowsO enc base T e v' (rows ++ [r]) ∧ W.heap.size < w'.heap.size ∧ (∀ B0 w0, Below B0 w0 W → B0 ≤ base → Below B0 w0 w') ∧
   (∀ S W0, KeepP S W0 W → (∀ b, S b → b < W.heap.size) → v.freeOf S → KeepP S W0 w' ∧ v'.freeOf S) := by
 obtain ⟨vs, k1, k2, k3⟩ := hown
 obtain ⟨v', w', hrun, h2, h3, h4⟩ := run_append_fresh (P := P) (W.alloc (.cells #[u] T)) base t ty T i z bytes ht hi hz hsize hby hzs v rows.length vs (k2.alloc _) ⟨W.heap.size, 0, none⟩ 1 1 [u] rfl (news_alloc W [u] T) (by simpa using h1) h63 hbytes (by simp; omega)
 have hg := grownBy_trans (World.grownBy_alloc W (.cells #[u] T) v.ownBlock) h3
 have hlt : W.heap.size < w'.heap.size := by have := h3.size; simp at this; omega
 refine ⟨v', w', hrun, World.rowsO.push hT ⟨vs, k1, k2, k3⟩ hu (fun vs' hv' => ?_) hg, hlt, fun B0 w0 hB hb => below_own k2 hg B0 w0 hB hb (by omega), keep_push hg ?_⟩
 ·have : vs' = vs := by
   rcases k2.2 with ⟨e1, e2⟩ | ⟨g, cap, cur, fz, rfl, _, q1, _, _, _, _, q2⟩
   ·have a1 := k2.1; have a2 := hv'.1
    rw [e2] at a1 a2
    have b1 : vs = [] := List.eq_nil_of_length_eq_zero (by simpa using a1)
    have b2 : vs' = [] := List.eq_nil_of_length_eq_zero (by simpa using a2)
    rw [b1, b2]
   ·rcases hv'.2 with ⟨e1, e2⟩ | ⟨g', cap', cur', fz', e1, _, q1', _, _, _, _, q2'⟩
    ·cases e1
    ·injection e1 with e1 e2 e3
     injection e1 with e1
     injection e1 with e1
     subst e1
     rw [q1] at q1'
     injection q1' with q1'
     injection q1' with q1' _ _
     rw [← q2, ← q2', q1']
  rw [this]; exact h2
 ·rcases h4 with h4 | h4
  ·exact .inl h4
  ·exact .inr fun k hk => by have := h4 k hk; simp at this; omega
theorem step_pushRow {α : Type} {enc : α → Value} {K : Act → World → Prop} {E : Prop} (hgd : o.guard = none) (s x : Operand) (t : TypeId)
  (hop : o.op = .call { callee := .builtin .append, args := #[s, x], argTypes := #[t, t] })
  (base : Nat) (T e : TypeId) (hT : T ≠ e) (i : TypeInfo) (z : Value) (bytes : Nat) (ht : P.underlying t = some (.slice T)) (hi : P.info? T = some i) (hz : i.zero = some z)
  (hsize : i.size = 1) (hby : i.bytes = bytes) (hzs : z.cells.size = 1)
  (v : Value) (rows : List (List α)) (hs : a.eval s = v) (hown : W.rowsO enc base T e v rows) (u : Value) (r : List α) (hu : W.owns base e 1 u r.length (r.map enc)) (H : Nat) (hH : W.heap.size = H) (hx : a.eval x = .slice (some ⟨H, 0, none⟩) 1 1) (h1 : u.oneCell' = true)
  (h63 : rows.length + 1 ≤ maxLen) (hbytes : (rows.length + 1) * bytes ≤ 140737488355328) (hbase : base ≤ W.heap.size)
  (h : ∀ v' w', w'.rowsO enc base T e v' (rows ++ [r]) → W.heap.size < w'.heap.size → (∀ B0 w0, Below B0 w0 W → B0 ≤ base → Below B0 w0 w') → (∀ S W0, KeepP S W0 W → (∀ b, S b → b < W.heap.size) → v.freeOf S → KeepP S W0 w' ∧ v'.freeOf S) → K (a.put o.dst v') w') :
  if Region.wanted o (yielded ops a.tmps) = true then Oper.wp P o a (W.alloc (.cells #[u] T)) K Q else E := by
 subst hH
 have hw : Region.wanted o (yielded ops a.tmps) = true := by simp [Region.wanted, hgd]
 rw [if_pos hw]
 obtain ⟨v', w', hrun, h2, h3, h4, h5⟩ := run_pushRow (P := P) base t o.type T e hT i z bytes ht hi hz hsize hby hzs v rows hown u r hu h1 h63 hbytes hbase
 unfold Oper.wp execOp
 simp only [hop, resolve, invoke, builtin, Sem.run_bind, Sem.run_pure, Result.andThen_ok, List.map_toArray, List.map_cons, List.map_nil, hs, hx, hrun]
 exact h v' w' h2 h3 h4 h5
theorem step_append_reads {w : World} {K : Act → World → Prop} {E : Prop} (hgd : o.guard = none) (s x : Operand) (t : TypeId)
  (ho : o.op = .call { callee := .builtin .append, args := #[s, x], argTypes := #[t, t] })
  (base : Nat) (e : TypeId) (i : TypeInfo) (z : Value) (bytes : Nat) (ht : P.underlying t = some (.slice e)) (hi : P.info? e = some i) (hz : i.zero = some z)
  (hsize : i.size = 1) (hby : i.bytes = bytes) (hzs : z.cells.size = 1)
  (v : Value) (n : Nat) (xs : List Value) (hs : a.eval s = v) (hown : w.owns base e 1 v n xs)
  (B : Nat) (xv : Value) (news : List Value) (hx : a.eval x = xv) (hr : w.reads B xv news) (h1 : ∀ u ∈ news, u.oneCell' = true)
  (h63 : n + news.length ≤ maxLen) (hbytes : (n + news.length) * bytes ≤ 140737488355328) (hbase : base ≤ w.heap.size)
  (h : ∀ v' w', w'.owns base e 1 v' (n + news.length) (xs ++ news) → w.grownBy w' v.ownBlock → K (a.put o.dst v') w') :
  if Region.wanted o (yielded ops a.tmps) = true then Oper.wp P o a w K Q else E := by
 have hw : Region.wanted o (yielded ops a.tmps) = true := by simp [Region.wanted, hgd]
 rw [if_pos hw]
 obtain ⟨v', w', hrun, h2, h3⟩ := run_append_reads (P := P) w base t o.type e i z bytes ht hi hz hsize hby hzs v n xs hown B xv news hr h1 h63 hbytes hbase
 unfold Oper.wp execOp
 simp only [ho, resolve, invoke, builtin, Sem.run_bind, Sem.run_pure, Result.andThen_ok, List.map_toArray, List.map_cons, List.map_nil, hs, hx, hrun]
 exact h v' w' h2 h3
end
end Go
/- A row of an owned slice of rows is replaced. -/
namespace Go
open RowKit
theorem World.owns.setOwn {w : World} {base g n c m : Nat} {T : TypeId} {xs : List Value} (h : w.owns base T 1 (.slice (some ⟨g, 0, none⟩) n c) m xs) (k : Nat) (u : Value) :
  (w.setCell ⟨g, k, none⟩ u).owns base T 1 (.slice (some ⟨g, 0, none⟩) n c) m (xs.set k u) := by
 obtain ⟨h1, h2⟩ := h
 refine ⟨by simpa using h1, ?_⟩
 rcases h2 with ⟨e, _⟩ | ⟨g', cap, cur, fz, e, hb, hg, hf, hn, hm, hs, ht⟩
 ·cases e
 ·injection e with e1 e2 e3
  injection e1 with e1
  injection e1 with e1
  subst e1 e2 e3
  refine .inr ⟨g, c, cur.setIfInBounds k u, fz, rfl, hb, ?_, by simpa using hf, hn, hm, by simpa using hs, ?_⟩
  ·simp [World.setCell, Array.getElem?_modify, hg]
  ·rw [Array.toList_setIfInBounds, List.take_set, ht]
end Go
/- A region that draws its order, whose operations come one behind the other once what only reads is taken first, and whose last one stores. -/
namespace Go
open RowKit
section
variable {P : Program} {ops : Array Oper} {Q : Exit → Act → World → Prop} {S : World → Prop} {L : Nat}
def wpAnyT (P : Program) (ops : Array Oper) (Q : Exit → Act → World → Prop) (S : World → Prop) (L : Nat) : Nat → Array Bool → Act → World → Prop
 | 0, listed, a, w => Region.ready .any ops listed = [] ∧ Q .normal a w
 | fuel + 1, listed, a, w =>
  (Region.ready .any ops listed = [] → Q .normal a w) ∧
  ∀ i ∈ Region.ready .any ops listed, wpOp P ops Q i (fun a' w' => (i ≠ L → S w') ∧ wpAnyT P ops Q S L fuel (listed.setIfInBounds i true) a' w') a w
theorem wpAny_of_T : ∀ (fuel : Nat) (listed : Array Bool) (a : Act) (w : World), wpAnyT P ops Q S L fuel listed a w → wpAny P .any ops Q fuel listed a w
 | 0, _, _, _, h => h
 | fuel + 1, _, _, _, h => ⟨h.1, fun i hi => wpOp_mono (fun a' w' h' => wpAny_of_T fuel _ a' w' h'.2) (h.2 i hi)⟩
theorem last_listed {i : Nat} {listed : Array Bool} (hlast : lastB ops L = true) (hi : i < L) (hr : L ∈ Region.ready .any ops listed) : listed.getD i false = true := by
 rw [mem_ready] at hr
 obtain ⟨-, oL, hoL, h3⟩ := hr
 unfold lastB at hlast
 rw [List.all_eq_true] at hlast
 have h4 := hlast i (List.mem_range.2 hi)
 rw [hoL, Option.map_some, Option.getD_some, Array.any_eq_true] at h4
 obtain ⟨k, hk, h5⟩ := h4
 rw [Bool.and_eq_true] at h5
 have h6 := h3 _ (Array.getElem_mem hk) h5.1
 rw [beq_iff_eq.1 h5.2] at h6
 exact h6
theorem unlisted_not {i : Nat} {listed : Array Bool} (h1 : listed.getD i true = false) (h2 : listed.getD i false = true) : False := by
 rcases Nat.lt_or_ge i listed.size with h | h
 ·simp [h] at h1 h2; rw [h1] at h2; cases h2
 ·simp [Array.getElem?_eq_none h] at h1
theorem wpAnyT_first {i : Nat} {oi : Oper} {v : Value} (hL : ops.size = L + 1) (hlast : lastB ops L = true) (hiL : i < L) (hi : ops[i]? = some oi) (hsel : ∀ (j : Nat) (o : Oper) cs b, ops[j]? = some o → o.op ≠ .select cs b)
  (hQ : ∀ c a w, Q (.panic c) (a.put oi.dst v) w → Q (.panic c) a w) :
  ∀ (fuel : Nat) (listed : Array Bool) (a : Act) (w : World),
   (∀ j oj, ops[j]? = some oj → j ≠ i → listed.getD j true = false → (∀ e ∈ oj.after, Region.binds .any e = true → e.on ≠ i) → oi.apart ops oj = true) →
   i ∈ Region.ready .any ops listed → YieldsIf P ops S oi v a → S w →
   wpAnyT P ops Q S L fuel (listed.setIfInBounds i true) (a.put oi.dst v) w → wpAnyT P ops Q S L (fuel + 1) listed a w := by
 intro fuel
 induction fuel with
 | zero =>
  intro listed a w _ hr hy hS H
  refine ⟨fun h => (by rw [h] at hr; cases hr), fun j hj => ?_⟩
  by_cases hji : j = i
  ·subst hji; exact hy.wpOp hi hS ⟨fun _ => hS, H⟩
  ·have := ready_mono hj hji
   rw [H.1] at this
   cases this
 | succ fuel ih =>
  intro listed a w hfree hr hy hS H
  refine ⟨fun h => (by rw [h] at hr; cases hr), fun j hj => ?_⟩
  by_cases hji : j = i
  ·subst hji; exact hy.wpOp hi hS ⟨fun _ => hS, H⟩
  ·have hjL : j ≠ L := by
    rintro rfl
    exact unlisted_not (mem_ready.1 hr).1 (last_listed hlast hiL hj)
   have h1 := H.2 j (ready_mono hj hji)
   obtain ⟨hjun, oj, hoj, hall⟩ := mem_ready.1 hj
   have hnot : ∀ e ∈ oj.after, Region.binds .any e = true → e.on ≠ i := fun e he hb heq => by
    have h1 := hall e he hb
    rw [heq] at h1
    exact unlisted_not (mem_ready.1 hr).1 h1
   have h2 := wpOp_putIf hoj (hfree j oj hoj hji hjun hnot) (fun cs b => hsel i oi cs b hi) (fun cs b => hsel j oj cs b hoj) hQ hy h1
   have hfree' : ∀ k ok, ops[k]? = some ok → k ≠ i → (listed.setIfInBounds j true).getD k true = false →
     (∀ e ∈ ok.after, Region.binds .any e = true → e.on ≠ i) → oi.apart ops ok = true := fun k ok hk hki hun hno => by
    refine hfree k ok hk hki ?_ hno
    by_cases hjk : j = k
    ·subst hjk; exact hjun
    ·rw [getD_set_ne true hjk] at hun; exact hun
   refine wpOp_mono (fun a' w' h3 => ⟨h3.2.1, ih (listed.setIfInBounds j true) a' w' hfree' (ready_mono hr (Ne.symm hji)) h3.1 (h3.2.1 hjL) ?_⟩) h2
   rw [Array.setIfInBounds_comm _ _ hji]
   exact h3.2.2
theorem wpAnyT_take (i : Nat) {oi : Oper} {v : Value} {fuel : Nat} {listed : Array Bool} {a : Act} {w : World} (hr : (Region.ready .any ops listed).contains i = true) (hL : ops.size = L + 1) (hlast : lastB ops L = true) (hiL : i < L) (hi : ops.toList[i]? = some oi)
  (hs : Region.noSelect ops = true) (hf : Region.free .any ops listed i = true)
  (hQ : ∀ c a w, Q (.panic c) (a.put oi.dst v) w → Q (.panic c) a w) (hy : YieldsIf P ops S oi v a) (hS : S w)
  (h : wpAnyT P ops Q S L fuel (listed.setIfInBounds i true) (a.put oi.dst v) w) : wpAnyT P ops Q S L (fuel + 1) listed a w :=
 wpAnyT_first hL hlast hiL (by simpa using hi) (Region.noSelect_spec hs) hQ fuel listed a w (Region.free_spec (by simpa using hi) hf) (by simpa using hr) hy hS h
theorem tkT (i : Nat) {oi : Oper} {v : Value} {fuel : Nat} {listed : Array Bool} {a : Act} {w : World} (hi : ops.toList[i]? = some oi) (hL : ops.size = L + 1) (hrun : ∀ w, S w → (execOp a.eval oi).run P w = .ok (.value v) w)
  (h : wpAnyT P ops Q S L fuel (listed.setIfInBounds i true) (a.put oi.dst v) w) (hr : (Region.ready .any ops listed).contains i = true := by kernel_rfl) (hs : Region.noSelect ops = true := by kernel_rfl) (hf : Region.free .any ops listed i = true := by kernel_rfl) (hQ : ∀ c a w, Q (.panic c) (a.put oi.dst v) w → Q (.panic c) a w := by exact fun _ _ _ h => h) (hw : Region.wanted oi (yielded ops a.tmps) = true := by rfl) (hlast : lastB ops L = true := by kernel_rfl) (hiL : i < L := by decide) (hS : S w := by assumption) : wpAnyT P ops Q S L (fuel + 1) listed a w :=
 wpAnyT_take i hr hL hlast hiL hi hs hf hQ (Or.inl ⟨hw, hrun⟩) hS h
theorem wpAnyT_step (i : Nat) {o : Oper} {fuel : Nat} {listed : Array Bool} {a : Act} {w : World} (hr : Region.ready .any ops listed = [i]) (ho : ops.toList[i]? = some o)
  (h : ∀ K' : Act → World → Prop, Shut (∀ a w, S w → (S w → wpAnyT P ops Q S L fuel (listed.setIfInBounds i true) a w) → K' a w) → if Region.wanted o (yielded ops a.tmps) = true then Oper.wp P o a w K' Q else K' (a.put o.dst undef) w) :
  wpAnyT P ops Q S L (fuel + 1) listed a w := by
 refine ⟨fun h0 => (by rw [hr] at h0; cases h0), fun j hj => ?_⟩
 rw [hr] at hj
 obtain rfl : j = i := by simpa using hj
 exact wpOp_step (by simpa using ho) (fun K' hK => h K' (fun a w hS hW => hK a w ⟨fun _ => hS, hW hS⟩))
theorem wpAnyT_last {o : Oper} {fuel : Nat} {listed : Array Bool} {a : Act} {w : World} (hr : Region.ready .any ops listed = [L]) (hr2 : Region.ready .any ops (listed.setIfInBounds L true) = []) (ho : ops.toList[L]? = some o)
  (h : ∀ K' : Act → World → Prop, Shut (∀ a w, Q .normal a w → K' a w) → if Region.wanted o (yielded ops a.tmps) = true then Oper.wp P o a w K' Q else K' (a.put o.dst undef) w) :
  wpAnyT P ops Q S L (fuel + 1) listed a w := by
 refine ⟨fun h0 => (by rw [hr] at h0; cases h0), fun j hj => ?_⟩
 rw [hr] at hj
 obtain rfl : j = L := by simpa using hj
 refine wpOp_step (by simpa using ho) (fun K' hK => h K' (fun a w hq => hK a w ⟨fun h => absurd rfl h, ?_⟩))
 cases fuel with
 | zero => exact ⟨hr2, hq⟩
 | succ fuel => exact ⟨fun _ => hq, by rw [hr2]; simp⟩
theorem wp_region_line {id : Nat} {a : Act} {w : World} (S : World → Prop) (L : Nat) (hm : P.follows .mixedOrders = true) (hS : S w.drew)
  (h : S w.drew → wpAnyT P ops Q S L ops.size (Array.replicate ops.size false) a w.drew) : (Code.region id ops true).wp P Q a w :=
 wp_region_any hm (wpAny_of_T _ _ _ _ (h hS))
end
end Go
/- Walks: residues. -/
namespace Go.Proofs.YtkjlfjnncdkmlaaGreat
section
open Go.RowKit
def fitsB (n : Nat) (l : List Nat) : Bool := l.all (fun a => decide (a < n)) && decide (2 ≤ n) && decide (n ≤ 2147483647)
def modB (q : Nat) : Bool := decide (3 ≤ q) && decide (q ≤ 2147483647) && decide (q % 2 = 1)
theorem modulus_any (q : Nat) (w : World) : Calls Tryz.prog 64 #[.int .u32 (q : Int)] w fun e w' => e = .returned (.bool (modB q)) ∧ w = w' := by
 unfold modB
 by_cases h1 : 3 ≤ q
 ·by_cases h2 : q ≤ 2147483647
  ·go_enter Tryz.func64, Tryz.ntmps64
   go_wp2
   go_ret
   refine ⟨ret_bool ?_, rfl⟩
   rw [Bool.eq_iff_iff]; simp [h1, h2]; omega
  ·go_enter Tryz.func64, Tryz.ntmps64
   go_wp2
   go_ret
   refine ⟨ret_bool ?_, rfl⟩
   simp
 ·go_enter Tryz.func64, Tryz.ntmps64
  go_wp2
  go_ret
  refine ⟨ret_bool ?_, rfl⟩
  simp
theorem fits_any (n : Nat) (v : Value) (xs : List Nat) (B : Nat) (w : World) (hr : w.reads B v (xs.map u32V)) :
  Calls Tryz.prog 70 #[.int .u32 (n : Int), v] w fun e w' => e = .returned (.bool (fitsB n xs)) ∧ w = w' := by
 have hl := hr.le_map
 obtain ⟨a, cap, rfl, hcap, hmx, hsh⟩ := reads_u32 hr
 have HS := Lib.hid hsh
 clear hsh hr
 go_enter Tryz.func70, Tryz.ntmps70
 go_wp2
 go_loop [9] (fun i => ∃ k : Nat, k ≤ xs.length ∧ i = .int .i64 (k : Int) ∧ Hid ((xs.take k).all (fun a => decide (a < n)) = true)) (fun i => xs.length - (intOf i).toNat)
 case atStart => exact ⟨0, Nat.zero_le _, rfl, by show _ = _; simp⟩
 case round =>
  obtain ⟨k, hk, rfl, hall⟩ := hrel
  by_cases hlt : k < xs.length
  ·obtain ⟨x, hx⟩ : ∃ x, xs[k]? = some x := ⟨xs[k], List.getElem?_eq_getElem hlt⟩
   obtain ⟨b, off, rfl, _, hc⟩ := HS.out k x hx
   have HX := Lib.hid hx
   clear hx
   by_cases hxn : x < n
   ·go_wp2
    go_round
    case rel => exact ⟨k + 1, by omega, by go_num, by show _ = _; rw [all_take_succ _ _ _ _ HX.out, hall.out]; simp [hxn]⟩
    case measure => simp [intOf]; omega
   ·go_wp2
    go_ret
    refine ⟨ret_bool ?_, rfl⟩
    unfold fitsB
    have : xs.all (fun a => decide (a < n)) = false := by
     rw [List.all_eq_false]; exact ⟨x, List.mem_of_getElem? HX.out, by simpa using hxn⟩
    simp [this]
  ·obtain rfl : k = xs.length := by omega
   by_cases h2 : 2 ≤ n
   ·go_wp2
    go_ret
    refine ⟨ret_bool ?_, rfl⟩
    unfold fitsB
    have := hall.out
    rw [List.take_length] at this
    rw [this, Bool.eq_iff_iff]; simp; omega
   ·go_wp2
    go_ret
    refine ⟨ret_bool ?_, rfl⟩
    unfold fitsB
    simp [h2]
end
/- Walks: inverses, and whether a number is in a list. -/
section
open Go.RowKit
def hasB (l : List Nat) (x : Nat) : Bool := l.contains x
theorem Index_any (x : Nat) (v : Value) (xs : List Nat) (B : Nat) (w : World) (hr : w.reads B v (xs.map u32V)) :
  Calls Tryz.prog 69 #[v, .int .u32 (x : Int)] w fun e w' => (∃ i : Int, e = .returned (.int .i64 i) ∧ decide (0 ≤ i) = xs.contains x) ∧ w = w' := by
 have hl := hr.le_map
 obtain ⟨a, cap, rfl, hcap, hmx, hsh⟩ := reads_u32 hr
 have HS := Lib.hid hsh
 clear hsh hr
 go_enter Tryz.func69, Tryz.ntmps69
 go_wp2
 go_loop [8] (fun i => ∃ k : Nat, k ≤ xs.length ∧ i = .int .i64 (k : Int) ∧ Hid (x ∉ xs.take k)) (fun i => xs.length - (intOf i).toNat)
 case atStart => exact ⟨0, Nat.zero_le _, rfl, by show _ ∉ _; simp⟩
 case round =>
  obtain ⟨k, hk, rfl, hall⟩ := hrel
  by_cases hlt : k < xs.length
  ·obtain ⟨y, hx⟩ : ∃ x, xs[k]? = some x := ⟨xs[k], List.getElem?_eq_getElem hlt⟩
   obtain ⟨b, off, rfl, _, hc⟩ := HS.out k y hx
   have HX := Lib.hid hx
   clear hx
   by_cases hxn : x = y
   ·subst hxn
    go_wp2
    go_ret
    exact ⟨⟨_, rfl, by simp [List.mem_of_getElem? HX.out]⟩, rfl⟩
   ·have hb : ((x : Int) == (y : Int)) = false := by rw [beq_eq_false_iff_ne]; omega
    go_wp2
    go_round
    case rel =>
     refine ⟨k + 1, by omega, by go_num, ?_⟩
     show _ ∉ _
     rw [List.take_add_one, HX.out]
     simp [hxn]
     exact hall.out
    case measure => simp [intOf]; omega
  ·obtain rfl : k = xs.length := by omega
   have h2 := hall.out
   rw [List.take_length] at h2
   have HH := Lib.hid h2
   clear h2 hall
   go_wp2
   go_ret
   exact ⟨⟨-1, rfl, by simp [HH.out]⟩, rfl⟩
theorem Contains_any (x : Nat) (v : Value) (xs : List Nat) (B : Nat) (w : World) (hr : w.reads B v (xs.map u32V)) :
  Calls Tryz.prog 43 #[v, .int .u32 (x : Int)] w fun e w' => e = .returned (.bool (hasB xs x)) ∧ w = w' := by
 have HI := Lib.hid (fun W (h : W.reads B v (xs.map u32V)) => Index_any x v xs B W h)
 have HR := Lib.hid hr
 clear hr
 go_enter Tryz.func43, Tryz.ntmps43
 go_wp2_with fail
 refine (HI.out _ HR.out).mono ?_
 rintro e w1 ⟨⟨i, rfl, hi⟩, rfl⟩
 have H := Lib.hid hi
 clear hi HI HR
 go_wp2
 go_ret
 exact ⟨ret_bool H.out, rfl⟩
end
/- Walks: whether parameters are valid. -/
namespace G
open Go.RowKit
theorem par_cells {w : World} {p : Nat} {v0 v1 v2 v3 v4 v5 v6 : Value} {t : TypeId} {fz : Nat × Nat} (h : w.heap[p]? = some (.cells #[v0, v1, v2, v3, v4, v5, v6] t fz)) :
  w.cell? ⟨p, 0, none⟩ = some v0 ∧ w.cell? ⟨p, 1, none⟩ = some v1 ∧ w.cell? ⟨p, 2, none⟩ = some v2 ∧ w.cell? ⟨p, 3, none⟩ = some v3 ∧ w.cell? ⟨p, 4, none⟩ = some v4 ∧ w.cell? ⟨p, 5, none⟩ = some v5 ∧ w.cell? ⟨p, 6, none⟩ = some v6 := by
 refine ⟨?_, ?_, ?_, ?_, ?_, ?_, ?_⟩ <;> simp [World.cell?, h]
def okTo (chain : List Nat) (k : Nat) : Bool := (List.range k).all fun i => (chain[i]?).all fun q => modB q && !hasB (chain.take i) q
theorem okTo_succ (chain : List Nat) (k q : Nat) (h : chain[k]? = some q) : okTo chain (k + 1) = (okTo chain k && (modB q && !hasB (chain.take k) q)) := by
 unfold okTo; rw [List.range_succ, List.all_append]; simp [h]
theorem okTo_mono (chain : List Nat) (k m : Nat) (h : okTo chain k = false) (hkm : k ≤ m) : okTo chain m = false := by
 unfold okTo at *
 rw [List.all_eq_false] at *
 obtain ⟨x, hx, h⟩ := h
 exact ⟨x, by simp at *; omega, h⟩
def sizeB (N : Int) : Bool := N == 4 || N == 8 || N == 16 || N == 32
def spB (chain : List Nat) (sp : Nat) : Bool := sp == 0 || (modB sp && !hasB chain sp)
def validB (N : Int) (chain : List Nat) (sp : Nat) : Bool := sizeB N && (decide (1 ≤ chain.length) && decide (chain.length ≤ 24) && spB chain sp) && okTo chain chain.length
def badB (m : Nat) (chain : List Nat) (sp : Nat) : Bool := decide (m < 1) || decide (m > 24) || !(sp == 0 || (modB sp && !hasB chain sp))
theorem validB_of (N : Int) (chain : List Nat) (sp : Nat) (hN : N = 4 ∨ N = 8 ∨ N = 16 ∨ N = 32) (h1 : okTo chain chain.length = true) (h2 : false = badB chain.length chain sp) : validB N chain sp = true := by
 have h3 := h2.symm
 unfold badB at h3
 rw [Bool.or_eq_false_iff, Bool.or_eq_false_iff] at h3
 obtain ⟨⟨h4, h5⟩, h6⟩ := h3
 simp only [decide_eq_false_iff_not] at h4 h5
 simp only [Bool.not_eq_false'] at h6
 unfold validB spB sizeB
 rw [h1, h6]
 simp; exact ⟨by omega, by omega, by omega⟩
theorem validB_bad (N : Int) (chain : List Nat) (sp : Nat) (h2 : true = badB chain.length chain sp) : validB N chain sp = false := by
 have h3 := h2.symm
 unfold badB at h3
 rw [Bool.or_eq_true, Bool.or_eq_true] at h3
 unfold validB spB
 rcases h3 with (h3 | h3) | h3
 ·have : decide (1 ≤ chain.length) = false := by simp at h3 ⊢; exact h3
  rw [this]; simp
 ·have : decide (chain.length ≤ 24) = false := by simp at h3 ⊢; omega
  rw [this]; simp
 ·simp only [Bool.not_eq_true'] at h3
  rw [h3]; simp
theorem validB_not (N : Int) (chain : List Nat) (sp k : Nat) (h : okTo chain k = false) (hk : k ≤ chain.length) : validB N chain sp = false := by
 unfold validB; rw [okTo_mono _ _ _ h hk]; simp
theorem validB_size (N : Int) (chain : List Nat) (sp : Nat) (hN : ¬ (N = 4 ∨ N = 8 ∨ N = 16 ∨ N = 32)) : validB N chain sp = false := by
 unfold validB sizeB
 have : (N == 4 || N == 8 || N == 16 || N == 32) = false := by simp; omega
 rw [this]; simp
theorem valid_any (N pr pw wt er : Int) (cv : Value) (chain : List Nat) (sp : Nat) (B p : Nat) (w : World) (hr : w.reads B cv (chain.map u32V))
  (hp : w.heap[p]? = some (.cells #[.int .i64 N, .int .u32 pr, .int .i64 pw, cv, .int .u32 (sp : Int), .int .i64 wt, .int .u32 er] 25)) :
  Calls Tryz.prog 30 #[.pointer (some ⟨p, 0, none⟩)] w fun e w' => e = .returned (.bool (validB N chain sp)) ∧ ∃ n, w' = w.drewN n := by
 obtain ⟨c0, c1, c2, c3, c4, c5, c6⟩ := par_cells hp
 clear hp c1 c2 c5 c6
 have HM := Lib.hid (fun W x => modulus_any x W)
 have hl := hr.le_map
 obtain ⟨a, cap, rfl, hcap, hmx, hsh⟩ := reads_u32 hr
 have hcon : ∀ (n x k : Nat), k ≤ chain.length → Calls Tryz.prog 43 #[.slice a (k : Nat) cap, .int .u32 (x : Int)] (w.drewN n) fun e w' => e = .returned (.bool (hasB (chain.take k) x)) ∧ w.drewN n = w' := fun n x k hk => 
  Contains_any x _ (chain.take k) B (w.drewN n) (by rw [List.map_take]; exact (hr.drewN n).take k hk)
 have hall : ∀ (n x : Nat), Calls Tryz.prog 43 #[.slice a chain.length cap, .int .u32 (x : Int)] (w.drewN n) fun e w' => e = .returned (.bool (hasB chain x)) ∧ w.drewN n = w' := fun n x => 
  Contains_any x _ chain B (w.drewN n) (hr.drewN n)
 have HC := Lib.hid hcon
 have HA := Lib.hid hall
 have HS := Lib.hid hsh
 clear hcon hall hsh hr
 obtain ⟨r, hr⟩ : ∃ r, r = validB N chain sp := ⟨_, rfl⟩
 rw [← hr]
 have HR := Lib.hid hr
 clear hr
 obtain ⟨m, hm⟩ : ∃ m, m = chain.length := ⟨_, rfl⟩
 rw [← hm] at HA c3 hl hcap
 have HH := Lib.hid hm
 clear hm
 by_cases hN : N = 4 ∨ N = 8 ∨ N = 16 ∨ N = 32
 ·go_enter Tryz.func30, Tryz.ntmps30
  go_upto_block 0 with (fail)
  go_cut [] (fun wx => wx = w)
  case first =>
   rcases hN with rfl | rfl | rfl | rfl
   all_goals
    go_wp2
    go_meet
    case rel => rfl
  case rest =>
   subst hcut
   obtain ⟨w1, hw1⟩ : ∃ w1, w1 = wc := ⟨_, rfl⟩
   subst hw1
   obtain ⟨bad, hbad⟩ : ∃ bad : Bool, bad = badB m chain sp := ⟨_, rfl⟩
   have HB := Lib.hid hbad
   clear hbad
   go_upto_region 7 with (fail)
   go_cut [53] (fun s wx => s = .bool bad ∧ ∃ n, wx = w1.drewN n)
   case first =>
    by_cases h1 : 1 ≤ m
    ·have hd1 : decide ((m : Int) < 1) = false := by simp; omega
     by_cases h2 : m ≤ 24
     ·have hd2 : decide ((m : Int) > 24) = false := by simp; omega
      by_cases h3 : sp = 0
      ·have hb : ((sp : Int) != 0) = false := by rw [h3]; rfl
       obtain rfl : bad = false := by rw [HB.out, badB]; simp [h2, h3]; omega
       clear h3
       go_quiet (fail)
       go_wp2
       go_meet
       case rel => exact ⟨rfl, _, rfl⟩
      ·have hb : ((sp : Int) != 0) = true := by rw [bne_iff_ne]; omega
       by_cases h4 : modB sp = true
       ·by_cases h5 : hasB chain sp = true
        ·obtain rfl : bad = true := by rw [HB.out, badB, h4, h5]; simp [h3]
         clear h3
         go_quiet ((first | (go_at_call 64; exact quiet_left (HM.out _ _)) | (go_at_call 43; exact quiet_left (HA.out _ _))))
         go_wp2
         go_meet
         case rel => exact ⟨rfl, _, rfl⟩
        ·have h5 : hasB chain sp = false := by simpa using h5
         obtain rfl : bad = false := by rw [HB.out, badB, h4, h5]; simp [h2]; omega
         clear h3
         go_quiet ((first | (go_at_call 64; exact quiet_left (HM.out _ _)) | (go_at_call 43; exact quiet_left (HA.out _ _))))
         go_wp2
         go_meet
         case rel => exact ⟨rfl, _, rfl⟩
       ·have h4 : modB sp = false := by simpa using h4
        obtain rfl : bad = true := by rw [HB.out, badB, h4]; simp [h3]
        clear h3
        go_quiet ((first | (go_at_call 64; exact quiet_left (HM.out _ _)) | (go_at_call 43; exact quiet_left (HA.out _ _))))
        go_wp2
        go_meet
        case rel => exact ⟨rfl, _, rfl⟩
     ·have hd2 : decide ((m : Int) > 24) = true := by simp; omega
      obtain rfl : bad = true := by rw [HB.out, badB]; simp; omega
      go_quiet (fail)
      go_wp2
      go_meet
      case rel => exact ⟨rfl, _, rfl⟩
    ·have hd1 : decide ((m : Int) < 1) = true := by simp; omega
     obtain rfl : bad = true := by rw [HB.out, badB]; simp; omega
     go_quiet (fail)
     go_wp2
     go_meet
     case rel => exact ⟨rfl, _, rfl⟩
   case rest =>
    obtain ⟨rfl, nq, rfl⟩ := hcut
    cases bad
    ·go_wp2
     go_loop [59] (fun i => ∃ k : Nat, k ≤ m ∧ i = .int .i64 (k : Int) ∧ Hid (okTo chain k = true)) (fun i => m - (intOf i).toNat)
     case atStart => exact ⟨0, Nat.zero_le _, rfl, rfl⟩
     case round =>
      obtain ⟨k, hk, rfl, hok⟩ := hrel
      by_cases hlt : k < m
      ·obtain ⟨q, hq⟩ : ∃ x, chain[k]? = some x := ⟨chain[k]'(by rw [← HH.out]; exact hlt), List.getElem?_eq_getElem _⟩
       obtain ⟨b, off, rfl, _, hc⟩ := HS.out k q hq
       have HQ := Lib.hid hq
       clear hq
       have hkl : k ≤ chain.length := by rw [← HH.out]; omega
       have HC1 := Lib.hid (HC.out nq q k hkl)
       clear hkl
       by_cases h4 : modB q = true
       ·by_cases h5 : hasB (chain.take k) q = true
        ·obtain rfl : r = false := by
          rw [HR.out]; exact validB_not _ _ _ (k + 1) (by rw [okTo_succ _ _ _ HQ.out]; rw [h4, h5]; simp) (by rw [← HH.out]; omega)
         go_wp2_with (first | (go_at_call 64; refine (HM.out _ _).mono ?_; rintro e w2 ⟨rfl, rfl⟩) | (go_at_call 43; refine HC1.out.mono ?_; rintro e w2 ⟨rfl, rfl⟩))
         go_ret
         exact ⟨rfl, nq, rfl⟩
        ·have h5 : hasB (chain.take k) q = false := by simpa using h5
         go_wp2_with (first | (go_at_call 64; refine (HM.out _ _).mono ?_; rintro e w2 ⟨rfl, rfl⟩) | (go_at_call 43; refine HC1.out.mono ?_; rintro e w2 ⟨rfl, rfl⟩))
         go_round
         case rel =>
          refine ⟨k + 1, by omega, by go_num, ?_⟩
          show _ = _
          rw [okTo_succ _ _ _ HQ.out, hok.out]; rw [h4, h5]; rfl
         case measure => simp [intOf]; omega
       ·have h4 : modB q = false := by simpa using h4
        obtain rfl : r = false := by
         rw [HR.out]; exact validB_not _ _ _ (k + 1) (by rw [okTo_succ _ _ _ HQ.out]; rw [h4]; simp) (by rw [← HH.out]; omega)
        go_wp2_with (first | (go_at_call 64; refine (HM.out _ _).mono ?_; rintro e w2 ⟨rfl, rfl⟩) | (go_at_call 43; refine HC1.out.mono ?_; rintro e w2 ⟨rfl, rfl⟩))
        go_ret
        exact ⟨rfl, nq, rfl⟩
      ·obtain rfl : k = m := by omega
       obtain rfl : r = true := by
        rw [HR.out]
        refine validB_of _ _ _ hN ?_ ?_
        ·have := hok.out
         rwa [HH.out] at this
        ·have := HB.out
         rwa [HH.out] at this
       go_wp2
       go_ret
       exact ⟨rfl, nq, rfl⟩
    ·obtain rfl : r = false := by
      rw [HR.out]
      refine validB_bad _ _ _ ?_
      have := HB.out
      rwa [HH.out] at this
     go_wp2
     go_ret
     exact ⟨rfl, nq, rfl⟩
 ·obtain rfl : r = false := by
   rw [HR.out]; exact validB_size _ _ _ hN
  have b1 : (N == 4) = false := by rw [beq_eq_false_iff_ne]; omega
  have b2 : (N == 8) = false := by rw [beq_eq_false_iff_ne]; omega
  have b3 : (N == 16) = false := by rw [beq_eq_false_iff_ne]; omega
  have b4 : (N == 32) = false := by rw [beq_eq_false_iff_ne]; omega
  clear hN
  go_enter Tryz.func30, Tryz.ntmps30
  go_wp2
  go_ret
  exact ⟨rfl, 0, rfl⟩
end G
/- Walks: levels, places, lists. -/
namespace G
open Go.RowKit
def levB (n : Nat) (level : Int) : Bool := decide (1 ≤ level) && decide (level ≤ (n : Int))
def placeB (chain : List Nat) (sp : Nat) (level : Int) (special : Bool) : Bool := levB chain.length level && (!special || sp != 0)
theorem place_any (N pr pw wt er : Int) (cv : Value) (chain : List Nat) (sp : Nat) (level : Int) (special : Bool) (B p : Nat) (w : World) (hr : w.reads B cv (chain.map u32V))
  (hp : w.heap[p]? = some (.cells #[.int .i64 N, .int .u32 pr, .int .i64 pw, cv, .int .u32 (sp : Int), .int .i64 wt, .int .u32 er] 25)) :
  Calls Tryz.prog 31 #[.pointer (some ⟨p, 0, none⟩), .int .i64 level, .bool special] w fun e w' => e = .returned (.bool (placeB chain sp level special)) ∧ w = w' := by
 obtain ⟨c0, c1, c2, c3, c4, c5, c6⟩ := par_cells hp
 clear hp c0 c1 c2 c5 c6
 have hl := hr.le_map
 obtain ⟨a, cap, rfl, -, -, -⟩ := reads_u32 hr
 clear hr
 obtain ⟨r, hr⟩ : ∃ r, r = placeB chain sp level special := ⟨_, rfl⟩
 rw [← hr]
 unfold placeB levB at hr
 have HR := Lib.hid hr
 clear hr
 obtain ⟨m, hm⟩ : ∃ m, m = chain.length := ⟨_, rfl⟩
 rw [← hm] at HR c3 hl
 clear hm
 by_cases h1 : 1 ≤ level
 ·have d1 : decide (1 ≤ level) = true := by simpa using h1
  by_cases h2 : level ≤ (m : Int)
  ·have d2 : decide (level ≤ (m : Int)) = true := by simpa using h2
   cases special
   ·obtain rfl : r = true := by rw [HR.out]; simp [h1, h2]
    go_enter Tryz.func31, Tryz.ntmps31
    go_wp2
    go_ret
    exact ⟨rfl, rfl⟩
   ·by_cases h3 : sp = 0
    ·obtain rfl : r = false := by rw [HR.out]; simp [h3]
     have hb : ((sp : Int) != 0) = false := by rw [h3]; rfl
     clear h3
     go_enter Tryz.func31, Tryz.ntmps31
     go_wp2
     go_ret
     exact ⟨rfl, rfl⟩
    ·obtain rfl : r = true := by rw [HR.out]; simp [h1, h2, h3]
     have hb : ((sp : Int) != 0) = true := by rw [bne_iff_ne]; omega
     clear h3
     go_enter Tryz.func31, Tryz.ntmps31
     go_wp2
     go_ret
     exact ⟨rfl, rfl⟩
  ·obtain rfl : r = false := by rw [HR.out]; simp [h2]
   have d2 : decide (level ≤ (m : Int)) = false := by simpa using h2
   go_enter Tryz.func31, Tryz.ntmps31
   go_wp2
   go_ret
   exact ⟨rfl, rfl⟩
 ·obtain rfl : r = false := by rw [HR.out]; simp [h1]
  have d1 : decide (1 ≤ level) = false := by simpa using h1
  go_enter Tryz.func31, Tryz.ntmps31
  go_wp2
  go_ret
  exact ⟨rfl, rfl⟩
theorem lt1_any (x q : Nat) (c : Nat) (w : World) (hc : w.cell? ⟨c, 0, none⟩ = some (.int .u32 (q : Int))) :
  Calls Tryz.prog 39 #[.int .u32 (x : Int), .pointer (some ⟨c, 0, none⟩)] w fun e w' => e = .returned (.bool (decide (q ≤ x))) ∧ w = w' := by
 go_enter Tryz.func39, Tryz.ntmps39
 go_wp2
 go_ret
 exact ⟨ret_bool (by rw [Bool.eq_iff_iff]), rfl⟩
def anyGe (q : Nat) (xs : List Nat) : Bool := xs.any fun x => decide (q ≤ x)
theorem IndexFunc_lt (q c : Nat) (v : Value) (xs : List Nat) (B : Nat) (w : World) (hr : w.reads B v (xs.map u32V)) (hc : w.cell? ⟨c, 0, none⟩ = some (.int .u32 (q : Int))) :
  Calls Tryz.prog 66 #[v, .func (.func 39) #[] #[.pointer (some ⟨c, 0, none⟩)]] w fun e w' => (∃ i : Int, e = .returned (.int .i64 i) ∧ decide (0 ≤ i) = anyGe q xs) ∧ w = w' := by
 have HL := Lib.hid (fun x => lt1_any x q c w hc)
 have hl := hr.le_map
 obtain ⟨a, cap, rfl, -, -, hsh⟩ := reads_u32 hr
 have HS := Lib.hid hsh
 clear hsh hr hc
 go_enter Tryz.func66, Tryz.ntmps66
 go_wp2
 go_loop [8] (fun i => ∃ k : Nat, k ≤ xs.length ∧ i = .int .i64 (k : Int) ∧ Hid (anyGe q (xs.take k) = false)) (fun i => xs.length - (intOf i).toNat)
 case atStart => exact ⟨0, Nat.zero_le _, rfl, by show _ = _; simp [anyGe]⟩
 case round =>
  obtain ⟨k, hk, rfl, hall⟩ := hrel
  by_cases hlt : k < xs.length
  ·obtain ⟨y, hx⟩ : ∃ x, xs[k]? = some x := ⟨xs[k], List.getElem?_eq_getElem hlt⟩
   obtain ⟨b, off, rfl, _, hc⟩ := HS.out k y hx
   have HX := Lib.hid hx
   clear hx
   have HL1 := Lib.hid (HL.out y)
   by_cases hxn : q ≤ y
   ·have hd : decide (q ≤ y) = true := by simpa using hxn
    rw [hd] at HL1
    clear hd
    go_wp2_with (go_at_call 39; refine HL1.out.mono ?_; rintro e w2 ⟨rfl, rfl⟩)
    go_ret
    exact ⟨⟨_, rfl, by simp [anyGe]; exact ⟨y, List.mem_of_getElem? HX.out, hxn⟩⟩, rfl⟩
   ·have hd : decide (q ≤ y) = false := by simpa using hxn
    rw [hd] at HL1
    clear hd
    go_wp2_with (go_at_call 39; refine HL1.out.mono ?_; rintro e w2 ⟨rfl, rfl⟩)
    go_round
    case rel =>
     refine ⟨k + 1, by omega, by go_num, ?_⟩
     show _ = _
     have := hall.out
     unfold anyGe at *
     rw [List.take_add_one, HX.out]
     simp only [Option.toList_some, List.any_append, this, Bool.false_or]
     simpa using hxn
    case measure => simp [intOf]; omega
  ·obtain rfl : k = xs.length := by omega
   have h2 := hall.out
   rw [List.take_length] at h2
   have HH := Lib.hid h2
   clear h2 hall
   go_wp2
   go_ret
   exact ⟨⟨-1, rfl, by rw [HH.out]; rfl⟩, rfl⟩
theorem ContainsFunc_lt (q c : Nat) (v : Value) (xs : List Nat) (B : Nat) (w : World) (hr : w.reads B v (xs.map u32V)) (hc : w.cell? ⟨c, 0, none⟩ = some (.int .u32 (q : Int))) :
  Calls Tryz.prog 38 #[v, .func (.func 39) #[] #[.pointer (some ⟨c, 0, none⟩)]] w fun e w' => e = .returned (.bool (anyGe q xs)) ∧ w = w' := by
 have HI := Lib.hid (IndexFunc_lt q c v xs B w hr hc)
 clear hr hc
 go_enter Tryz.func38, Tryz.ntmps38
 go_wp2_with fail
 refine HI.out.mono ?_
 rintro e w1 ⟨⟨i, rfl, hi⟩, rfl⟩
 have H := Lib.hid hi
 clear hi HI
 go_wp2
 go_ret
 exact ⟨ret_bool H.out, rfl⟩
end G
/- Walks: the iterator over moduli. -/
namespace G
open Go.RowKit Go.Shelf
attribute [local go_sem] Oper.semAt_some
def modl (chain : List Nat) (sp : Nat) (level : Nat) (special : Bool) : List Nat := chain.take level ++ (if special then [sp] else [])
def modAt (l : List Nat) (x : Fin l.length) : Nat := l[x.val]
def ModEnc (l : List Nat) (x : Fin l.length) : Array Value := #[.int .i64 (x.val : Int), .int .u32 (modAt l x : Nat)]
theorem moduli1_in (n : Nat) (hn : 1 ≤ n) (l pb p : Nat) (S : Nat → Prop)
  (N pr pw wt er : Int) (cv : Value) (chain : List Nat) (sp level : Nat) (special : Bool) (B : Nat) (hlev : level ≤ chain.length) (_ : chain.length ≤ 9223372036854775807)
  (J Jx : List (Fin (modl chain sp level special).length) → World → Prop)
  (hJd : ∀ pre W n, J pre W → J pre (W.drewN n))
  (hY : ∀ pre x W, J pre W → pre.length < (modl chain sp level special).length → YieldAt Fence.wide (n - 1) Tryz.prog l (ModEnc _ x) W fun e W' =>
   (e = .returned (.bool true) ∧ J (pre ++ [x]) W' ∧ KeepP S W W') ∨ (e = .returned (.bool false) ∧ Jx (pre ++ [x]) W'))
  (W : World) (s0 : S pb) (s1 : S (pb + 1)) (s2 : S (pb + 2)) (sP : S p) (sC : ∀ a n c b off, cv = .slice a n c → a = some ⟨b, off, none⟩ → S b)
  (k0 : W.heap[pb]? = some (.cells #[.pointer (some ⟨p, 0, none⟩)] 52)) (k1 : W.heap[pb + 1]? = some (.cells #[.int .i64 (level : Int)] 3)) (k2 : W.heap[pb + 2]? = some (.cells #[.bool special] 4))
  (hp : W.heap[p]? = some (.cells #[.int .i64 N, .int .u32 pr, .int .i64 pw, cv, .int .u32 (sp : Int), .int .i64 wt, .int .u32 er] 25)) (hr : W.reads B cv (chain.map u32V))
  (h0 : J [] W) :
  CallsIn Fence.wide n Tryz.prog 40 #[.func (.yield l) #[] #[], .pointer (some ⟨pb, 0, none⟩), .pointer (some ⟨pb + 1, 0, none⟩), .pointer (some ⟨pb + 2, 0, none⟩)] W fun e W' => (∃ v, e = .returned v) ∧
   ((∃ ys, ys = List.finRange _ ∧ J ys W') ∨ (∃ pre, pre <+: List.finRange _ ∧ Jx pre W')) := by
 have HS : Hid (∀ W', KeepP S W W' → W'.cell? ⟨pb, 0, none⟩ = some (.pointer (some ⟨p, 0, none⟩)) ∧ W'.cell? ⟨pb + 1, 0, none⟩ = some (.int .i64 (level : Int)) ∧ W'.cell? ⟨pb + 2, 0, none⟩ = some (.bool special) ∧ W'.cell? ⟨p, 3, none⟩ = some cv ∧ W'.cell? ⟨p, 4, none⟩ = some (.int .u32 (sp : Int)) ∧ W'.reads B cv (chain.map u32V)) := by
  intro W' hk
  refine ⟨?_, ?_, ?_, ?_, ?_, hk.reads hr sC⟩
  ·rw [hk.cell s0]; simp [World.cell?, k0]
  ·rw [hk.cell s1]; simp [World.cell?, k1]
  ·rw [hk.cell s2]; simp [World.cell?, k2]
  ·rw [hk.cell sP]; exact (par_cells hp).2.2.2.1
  ·rw [hk.cell sP]; exact (par_cells hp).2.2.2.2.1
 have hml : (modl chain sp level special).length = level + (if special then 1 else 0) := by
  unfold modl; cases special <;> simp <;> omega
 have HML := Lib.hid hml
 have HY := Lib.hid hY
 clear hY k0 k1 k2 hp hr hml
 have H0 := HS.out W (KeepP.refl W)
 obtain ⟨c0, c1, c2, c3, c4, hr⟩ := H0
 have hl := hr.le_map
 obtain ⟨a, cap, rfl, hcap, hmx, hsh⟩ := reads_u32 hr
 have HSH := Lib.hid hsh
 clear hsh hr
 have hlv2 : level ≤ cap := by omega
 refine callsIn_of_wp Tryz.func40 rfl trivial ?_ rfl
 simp only [Tryz.ntmps40, List.size_toArray, List.length_cons, List.length_nil, Nat.reduceAdd, Nat.reduceSub, Array.replicate_succ, Array.replicate_zero, List.push_toArray, List.append_toArray, List.nil_append, List.cons_append]
 gi_wp2
 gi_big_quiet_th (fail)
 gi_wp2
 clear c0 c1 c2 c3 c4
 have hJ0 := hJd _ _ nq h0
 have HJD := Lib.hid hJd
 clear hJd h0
 gi_loopw [14] (fun i wr => ∃ k : Nat, k ≤ level ∧ i = .int .i64 (k : Int) ∧ J (fins _ k) wr ∧ KeepP S W wr)
  (fun i _ => level - (intOf i).toNat)
 case atStart => exact ⟨0, Nat.zero_le _, rfl, hJ0, fun _ _ => rfl⟩
 case round =>
  clear hJ0
  obtain ⟨k, hk, rfl, hJs, hkp⟩ := hrel
  by_cases hlt : k < level
  ·obtain ⟨q, hq⟩ : ∃ x, chain[k]? = some x := ⟨chain[k]'(by omega), List.getElem?_eq_getElem _⟩
   obtain ⟨b, off, rfl, _, hc0⟩ := HSH.out k q hq
   have hSb : S b := sC _ _ _ _ _ rfl rfl
   have hc : wr.cell? ⟨b, off + k, none⟩ = some (.int .u32 (q : Int)) := (hkp.cell hSb).trans hc0
   have hlm : k < (modl chain sp level special).length := by rw [HML.out]; omega
   have hqm : (modl chain sp level special)[k] = q := by
    have : (modl chain sp level special)[k]? = some q := by
     unfold modl
     rw [List.getElem?_append_left (by simp; omega), List.getElem?_take, if_pos hlt]; exact hq
    rw [List.getElem?_eq_getElem hlm] at this
    injection this
   obtain ⟨fn, tmps, assign, body, hy, hR⟩ := HY.out _ (⟨k, hlm⟩ : Fin _) wr hJs (by rw [fins_length _ _ (by omega)]; exact hlm)
   have hy' : (Instr.yield l #[.int .i64 (k : Int), .int .u32 (q : Int)]).run Tryz.prog wr = .ok (.round l fn tmps assign body) wr := by
    unfold ModEnc modAt at hy; simp only [hqm] at hy; exact hy
   have HQ := Lib.hid hq
   have HQM := Lib.hid hqm
   clear hy hq hqm hc0
   gi_wp2
   refine hR.mono ?_
   rintro e W3 (⟨rfl, hJ3, hk3⟩ | ⟨rfl, hJx3⟩)
   ·gi_wp2
    go_roundw
    case rel => exact ⟨k + 1, by omega, by go_num, by rw [fins_succ _ _ hlm]; exact hJ3, hkp.trans hk3⟩
    case measure => simp [intOf]; omega
   ·gi_wp2
    refine bodyPost_ret (results_none rfl _ _ _) rfl ?_
    exact ⟨⟨_, rfl⟩, .inr ⟨_, by rw [← fins_succ _ _ hlm]; exact fins_prefix _ _, hJx3⟩⟩
  ·obtain rfl : k = level := by omega
   obtain ⟨c0, c1, c2, c3, c4, -⟩ := HS.out _ hkp
   cases special
   ·gi_wp2
    go_end0
    exact ⟨⟨_, rfl⟩, .inl ⟨_, rfl, by
     have hm : (modl chain sp k false).length = k := by rw [HML.out]; simp
     have := hJs
     rw [← fins_all]
     rwa [show fins (modl chain sp k false).length (modl chain sp k false).length = fins (modl chain sp k false).length k by rw [hm]]⟩⟩
   ·have hlm : k < (modl chain sp k true).length := by rw [HML.out]; simp
    have hqm : (modl chain sp k true)[k] = sp := by
     have : (modl chain sp k true)[k]? = some sp := by
      unfold modl
      rw [List.getElem?_append_right (by simp; omega)]; simp
      rw [Nat.min_eq_left (by omega)]; simp
     rw [List.getElem?_eq_getElem hlm] at this
     injection this
    have hJd1 : J (fins _ k) wr.drew := HJD.out _ wr 1 hJs
    obtain ⟨fn, tmps, assign, body, hy, hR⟩ := HY.out _ (⟨k, hlm⟩ : Fin _) wr.drew hJd1 (by rw [fins_length _ _ (by omega)]; exact hlm)
    have hy' : (Instr.yield l #[.int .i64 (k : Int), .int .u32 (sp : Int)]).run Tryz.prog wr.drew = .ok (.round l fn tmps assign body) wr.drew := by
     unfold ModEnc modAt at hy; simp only [hqm] at hy; exact hy
    have hR2 := hR.mono (R' := fun e W' => ∃ b : Bool, e = .returned (.bool b) ∧ Hid ((b = true ∧ J (fins _ k ++ [⟨k, hlm⟩]) W') ∨ (b = false ∧ Jx (fins _ k ++ [⟨k, hlm⟩]) W'))) (by
     rintro e W3 (⟨rfl, hJ3, hk3⟩ | ⟨rfl, hJx3⟩)
     ·exact ⟨true, rfl, .inl ⟨rfl, hJ3⟩⟩
     ·exact ⟨false, rfl, .inr ⟨rfl, hJx3⟩⟩)
    clear hy hqm hR
    gi_wp2
    gi_region_with ((refine hR2.mono ?_; rintro e W3 ⟨bb, rfl, hJ3⟩))
    all_goals
     try gi_wp2
     go_end0
     refine ⟨⟨_, rfl⟩, ?_⟩
     have hN : (modl chain sp k true).length = k + 1 := by rw [HML.out]; simp
     have hf : fins (modl chain sp k true).length k ++ [⟨k, hlm⟩] = List.finRange _ := by
      rw [← fins_succ _ _ hlm, ← fins_all]; congr 1; exact hN.symm
     rcases hJ3.out with ⟨rfl, h⟩ | ⟨rfl, h⟩
     ·exact .inl ⟨_, rfl, by rw [← hf]; exact h⟩
     ·exact .inr ⟨_, List.prefix_refl _, by rw [← hf]; exact h⟩
theorem moduli_stops (n : Nat) (hn : 1 ≤ n) (pb p : Nat) (S : Nat → Prop)
  (N pr pw wt er : Int) (cv : Value) (chain : List Nat) (sp level : Nat) (special : Bool) (B : Nat) (hlev : level ≤ chain.length) (hlc : chain.length ≤ 9223372036854775807)
  (W : World) (hS : ∀ b, S b → b < W.heap.size) (s0 : S pb) (s1 : S (pb + 1)) (s2 : S (pb + 2)) (sP : S p) (sC : ∀ a n c b off, cv = .slice a n c → a = some ⟨b, off, none⟩ → S b)
  (k0 : W.heap[pb]? = some (.cells #[.pointer (some ⟨p, 0, none⟩)] 52)) (k1 : W.heap[pb + 1]? = some (.cells #[.int .i64 (level : Int)] 3)) (k2 : W.heap[pb + 2]? = some (.cells #[.bool special] 4))
  (hp : W.heap[p]? = some (.cells #[.int .i64 N, .int .u32 pr, .int .i64 pw, cv, .int .u32 (sp : Int), .int .i64 wt, .int .u32 er] 25)) (hr : W.reads B cv (chain.map u32V)) :
  SeqStopsK Fence.wide n Tryz.prog 40 #[.pointer (some ⟨pb, 0, none⟩), .pointer (some ⟨pb + 1, 0, none⟩), .pointer (some ⟨pb + 2, 0, none⟩)] (ModEnc (modl chain sp level special)) (KeepP S)
   (fun ys => ys = List.finRange _) (fun pre => pre <+: List.finRange _) (modl chain sp level special).length W := fun l J Jx W' hW hA hAx hY h0 => by
 have hk : KeepP S W W' := KeepP.below hW hS
 refine (moduli1_in n hn l pb p S N pr pw wt er cv chain sp level special B hlev hlc J Jx (fun pre X m h => hA pre X _ none h ⟨rfl, rfl, rfl, Nat.le_refl _, fun _ _ _ => rfl⟩ (fun r e => by cases e)) hY W' s0 s1 s2 sP sC
  ((hk _ s0).trans k0) ((hk _ s1).trans k1) ((hk _ s2).trans k2) ((hk _ sP).trans hp) (hk.reads hr sC) h0).mono ?_
 rintro e W2 ⟨he, ⟨ys, rfl, hj⟩ | ⟨pre, hpre, hj⟩⟩
 ·exact ⟨he, .inl ⟨_, rfl, hj⟩⟩
 ·exact ⟨he, .inr ⟨_, hpre, hj⟩⟩
theorem moduli_in (n p : Nat) (level : Int) (special : Bool) (w : World) :
  CallsIn Fence.wide n Tryz.prog 17 #[.pointer (some ⟨p, 0, none⟩), .int .i64 level, .bool special] w fun e w' =>
   e = .returned (.func (.func 40) #[] #[.pointer (some ⟨w.heap.size, 0, none⟩), .pointer (some ⟨w.heap.size + 1, 0, none⟩), .pointer (some ⟨w.heap.size + 2, 0, none⟩)]) ∧
   w' = ((w.alloc (.cells #[.pointer (some ⟨p, 0, none⟩)] 52)).alloc (.cells #[.int .i64 level] 3)).alloc (.cells #[.bool special] 4) := by
 refine callsIn_of_wp Tryz.func17 rfl trivial ?_ rfl
 simp only [Tryz.ntmps17, List.size_toArray, List.length_cons, List.length_nil, Nat.reduceAdd, Nat.reduceSub, Array.replicate_succ, Array.replicate_zero, List.push_toArray, List.append_toArray, List.nil_append, List.cons_append]
 gi_wp2
 go_ret
 exact ⟨rfl, rfl⟩
end G
/- Walks: whether an element is one. -/
namespace G
open Go.RowKit Go.Shelf Go.BigFrame
attribute [local go_sem] Oper.semAt_some
def okRow (N : Int) (l : List Nat) (rows : List (List Nat)) (x : Fin l.length) : Bool := (rows[x.val]?).any fun r => decide ((r.length : Int) = N) && !anyGe l[x.val] r
def preB (N : Int) (chain : List Nat) (sp : Nat) (level : Int) (special : Bool) : Bool := validB N chain sp && placeB chain sp level special
def checkB (N : Int) (chain : List Nat) (sp : Nat) (level : Int) (special : Bool) (rows : List (List Nat)) : Bool :=
 preB N chain sp level special && (decide (rows.length = (modl chain sp level.toNat special).length) && (List.finRange (modl chain sp level.toNat special).length).all (okRow N (modl chain sp level.toNat special) rows))
def errI (ok : Bool) : Int := if ok then 0 else 2
theorem modl_length (chain : List Nat) (sp : Nat) (level : Nat) (special : Bool) (h : level ≤ chain.length) : (modl chain sp level special).length = level + (if special then 1 else 0) := by
 unfold modl; cases special <;> simp <;> omega
theorem levB_nat {chain : List Nat} {sp : Nat} {level : Int} {special : Bool} (h : placeB chain sp level special = true) : ∃ k : Nat, level = (k : Int) ∧ 1 ≤ k ∧ k ≤ chain.length := by
 unfold placeB levB at h
 simp only [Bool.and_eq_true, decide_eq_true_eq] at h
 exact ⟨level.toNat, by omega, by omega, by omega⟩
theorem validB_len {N : Int} {chain : List Nat} {sp : Nat} (h : validB N chain sp = true) : 1 ≤ chain.length ∧ chain.length ≤ 24 := by
 unfold validB at h
 simp only [Bool.and_eq_true, decide_eq_true_eq] at h
 exact ⟨h.1.2.1.1, h.1.2.1.2⟩
theorem Check_any (N pr pw wt er : Int) (cv : Value) (chain : List Nat) (sp : Nat) (level : Int) (special : Bool) (rv : Value) (rows : List (List Nat)) (w : World) (hr : w.reads w.heap.size cv (chain.map u32V)) (hrow : w.rows u32V w.heap.size rv rows) :
  Calls Tryz.prog 16 #[.agg #[.int .i64 N, .int .u32 pr, .int .i64 pw, cv, .int .u32 (sp : Int), .int .i64 wt, .int .u32 er], .agg #[.int .i64 level, .bool special, rv]] w
   fun e w' => e = .returned (.int .i64 (errI (checkB N chain sp level special rows))) ∧ Below w.heap.size w w' := by
 obtain ⟨W0, hW0⟩ : ∃ W0, W0 = (((w.alloc (.cells #[.int .i64 N, .int .u32 pr, .int .i64 pw, cv, .int .u32 (sp : Int), .int .i64 wt, .int .u32 er] 25)).alloc (.cells #[.int .i64 level, .bool special, rv] 28)).alloc (.cells #[.int .i64 0] 36)) := ⟨_, rfl⟩
 have hB0 : Below w.heap.size w W0 := by rw [hW0]; exact (((Below.refl _ w).alloc (Nat.le_refl _) _).alloc (by simp) _).alloc (by simp; omega) _
 have hp0 : W0.heap[w.heap.size]? = some (.cells #[.int .i64 N, .int .u32 pr, .int .i64 pw, cv, .int .u32 (sp : Int), .int .i64 wt, .int .u32 er] 25) := by
  rw [hW0, Below.heap_alloc _ _ _ (by simp; omega), Below.heap_alloc _ _ _ (by simp)]; exact alloc_last _ _ rfl
 have ha0 : W0.heap[w.heap.size + 1]? = some (.cells #[.int .i64 level, .bool special, rv] 28) := by
  rw [hW0, Below.heap_alloc _ _ _ (by simp)]; exact alloc_last _ _ (by simp)
 have hc0 : W0.heap[w.heap.size + 1 + 1]? = some (.cells #[.int .i64 0] 36) := by
  rw [hW0]; exact alloc_last _ _ (by simp)
 have hr0 : W0.reads w.heap.size cv (chain.map u32V) := hr.below hB0
 have hrow0 := hrow.below hB0
 have HV := Lib.hid (fun W h1 h2 => valid_any N pr pw wt er cv chain sp w.heap.size w.heap.size W h1 h2)
 have HP := Lib.hid (fun W h1 h2 => place_any N pr pw wt er cv chain sp level special w.heap.size w.heap.size W h1 h2)
 have hz0 := lt_of_heap hc0
 obtain ⟨r, hrr⟩ : ∃ r, r = checkB N chain sp level special rows := ⟨_, rfl⟩
 rw [← hrr]
 have HR := Lib.hid hrr
 clear hrr
 refine (callsIn_wide (n := 5)).1 ?_
 refine callsIn_of_wp_marks Tryz.func16 rfl trivial ?_ rfl
 simp only [Tryz.ntmps16, List.size_toArray, List.length_cons, List.length_nil, Nat.reduceAdd, Nat.reduceSub, Array.replicate_succ, Array.replicate_zero, List.push_toArray, List.append_toArray, List.nil_append, List.cons_append]
 gi_wp2_with fail
 rw [← hW0]
 clear hW0
 have HR0 := Lib.hid hr0
 have HROW := Lib.hid hrow0
 have HP0 := Lib.hid hp0
 have HA0 := Lib.hid ha0
 clear hr hrow hr0 hrow0
 cases hv : validB N chain sp
 ·obtain rfl : r = false := by rw [HR.out, checkB, preB, hv]; rfl
  rw [hv] at HV
  refine ⟨trivial, (callsIn_wide.2 (HV.out _ HR0.out hp0)).mono ?_⟩
  rintro e w1 ⟨rfl, n1, rfl⟩
  clear HV HP hv hp0 ha0
  have hcell : W0.cell? ⟨w.heap.size + 1 + 1, 0, none⟩ = some (.int .i64 0) := by simp [World.cell?, hc0]
  have hfz : W0.frozen? ⟨w.heap.size + 1 + 1, 0, none⟩ = false := by simp [World.frozen?, hc0]
  gi_wp2
  refine ⟨trivial, ?_⟩
  gi_wp2
  refine postM_ret (v := .int .i64 2) ?_ rfl ⟨rfl, ?_⟩
  ·simp [results, Tryz.results16, go_sem, hcell]
  ·exact (below_drewN hB0 n1).setCell (by simp; omega) _
 ·rw [hv] at HV
  refine ⟨trivial, (callsIn_wide.2 (HV.out _ HR0.out hp0)).mono ?_⟩
  rintro e w1 ⟨rfl, n1, rfl⟩
  have hcell : W0.cell? ⟨w.heap.size + 1 + 1, 0, none⟩ = some (.int .i64 0) := by simp [World.cell?, hc0]
  have hfz : W0.frozen? ⟨w.heap.size + 1 + 1, 0, none⟩ = false := by simp [World.frozen?, hc0]
  have a0 : W0.cell? ⟨w.heap.size + 1, 0, none⟩ = some (.int .i64 level) := by simp [World.cell?, ha0]
  have a1 : W0.cell? ⟨w.heap.size + 1, 1, none⟩ = some (.bool special) := by simp [World.cell?, ha0]
  have a2 : W0.cell? ⟨w.heap.size + 1, 2, none⟩ = some rv := by simp [World.cell?, ha0]
  clear HV ha0
  gi_wp2_with fail
  cases hpl : placeB chain sp level special
  ·obtain rfl : r = false := by rw [HR.out, checkB, preB, hpl]; simp
   rw [hpl] at HP
   refine ⟨trivial, (callsIn_wide.2 (HP.out _ (HR0.out.drewN _) hp0)).mono ?_⟩
   rintro e w1 ⟨rfl, rfl⟩
   clear hp0 HP hv hpl
   gi_wp2
   refine postM_ret (v := .int .i64 2) ?_ rfl ⟨rfl, ?_⟩
   ·simp [results, Tryz.results16, go_sem, hcell]
   ·exact (below_drewN hB0 n1).setCell (by simp; omega) _
  ·obtain ⟨lv, rfl, hl1, hl2⟩ := levB_nat hpl
   have hlc := HR0.out.le_map
   have hl24 := (validB_len hv).2
   have hml := modl_length chain sp lv special hl2
   have hck : checkB N chain sp (lv : Int) special rows = (decide (rows.length = (modl chain sp lv special).length) && (List.finRange (modl chain sp lv special).length).all (okRow N (modl chain sp lv special) rows)) := by
    rw [checkB, preB, hv, hpl]; rfl
   rw [hck] at HR
   rw [hpl] at HP
   refine ⟨trivial, (callsIn_wide.2 (HP.out _ (HR0.out.drewN _) hp0)).mono ?_⟩
   rintro e w1 ⟨rfl, rfl⟩
   obtain ⟨ra, rcap, rfl, hrc, hrm, hsh⟩ := HROW.out.shape
   have HSH := Lib.hid hsh
   have HML := Lib.hid hml
   clear HP hv hpl hck hsh hml hp0
   obtain ⟨R, hR⟩ : ∃ R, R = lv + (if special then 1 else 0) := ⟨_, rfl⟩
   rw [← hR] at HML
   have HRR := Lib.hid hR
   have hRl : R ≤ lv + 1 := by rw [hR]; cases special <;> simp
   clear hR
   by_cases hrl : rows.length = R
   ·have HRL := Lib.hid hrl
    clear hrl
    cases special
    ·obtain rfl : lv = R := by rw [HRR.out]; simp
     have hq : ((rows.length : Int) != (lv : Int)) = false := by rw [bne_eq_false_iff_eq, HRL.out]; try simp
     gi_wp2_with fail
     refine ⟨trivial, (moduli_in _ _ _ _ _).mono ?_⟩
     rintro e w2 ⟨rfl, rfl⟩
     gi_wp2_with fail
     obtain ⟨W2, hW2⟩ : ∃ W2, W2 = ((W0.alloc (.cells #[.pointer (some ⟨w.heap.size, 0, none⟩)] 52)).alloc (.cells #[.int .i64 (lv : Int)] 3)).alloc (.cells #[.bool false] 4) := ⟨_, rfl⟩
     have hB2 : Below w.heap.size w W2 := by rw [hW2]; exact ((hB0.alloc hB0.size _).alloc (by have := hB0.size; simp; omega) _).alloc (by have := hB0.size; simp; omega) _
     have hB02 : Below W0.heap.size W0 W2 := by rw [hW2]; exact (((Below.refl _ W0).alloc (Nat.le_refl _) _).alloc (by simp) _).alloc (by simp; omega) _
     have k0 : W2.heap[W0.heap.size]? = some (.cells #[.pointer (some ⟨w.heap.size, 0, none⟩)] 52) := by
      rw [hW2, Below.heap_alloc _ _ _ (by simp; omega), Below.heap_alloc _ _ _ (by simp)]; exact alloc_last _ _ rfl
     have k1 : W2.heap[W0.heap.size + 1]? = some (.cells #[.int .i64 (lv : Int)] 3) := by
      rw [hW2, Below.heap_alloc _ _ _ (by simp)]; exact alloc_last _ _ (by simp)
     have k2 : W2.heap[W0.heap.size + 2]? = some (.cells #[.bool false] 4) := by
      rw [hW2]; exact alloc_last _ _ (by simp)
     have hz2 := lt_of_heap k2
     have hp2 := (hB02.block w.heap.size (by omega)).trans HP0.out
     have ha2 := (hB02.block (w.heap.size + 1) (by omega)).trans HA0.out
     have hc2 := (hB02.block (w.heap.size + 1 + 1) (by omega)).trans hc0
     have hr2 := (HR0.out.mono (B' := W0.heap.size) hB0.size).below hB02
     have hrow2 := (HROW.out.mono (B' := W0.heap.size) hB0.size).below hB02
     rw [← hW2]
     clear hW2
     have hSC := hr2.blk (by simp; omega)
     refine wpIn_range_box (n := 5) (by omega) rfl (enters_of Tryz.func40 (by kernel_rfl) rfl) (S := fun b => b < W2.heap.size) (w := W2.drewN n1) (fun _ h => h)
      (moduli_stops 4 (by omega) W0.heap.size w.heap.size (fun b => b < W2.heap.size) N pr pw wt er cv chain sp lv false W0.heap.size hl2 hlc (W2.drewN n1) (fun _ h => h) (by omega) (by omega) hz2 (by omega)
       (fun a n c b off h1 h2 => Nat.lt_of_lt_of_le (hSC a n c b off h1 h2) (by omega)) k0 k1 k2 hp2 (hr2.drewN n1)) (fun _ => rfl)
      (fun pre W => (∀ x ∈ pre, okRow N (modl chain sp lv false) rows x = true) ∧ Below W2.heap.size W2 W)
      (fun pre W => (∃ x ∈ pre, okRow N (modl chain sp lv false) rows x = false) ∧ W.heap[w.heap.size + 1 + 1]? = some (.cells #[.int .i64 2] 36) ∧ Below w.heap.size w W)
      ((ownFrom_pure _ _).and (ownFrom_below (Nat.le_refl _) (Nat.le_refl _)))
      ((ownFrom_pure _ _).and ((ownFrom_cells _ _ (fun _ => w.heap.size + 1 + 1) (fun _ => #[.int .i64 2]) 36 (0, 0) (fun _ _ h => h) (fun _ _ h => h)).and (ownFrom_below (Nat.le_refl _) hB2.size)))
      ⟨by simp, below_drewN (Below.refl _ _) _⟩
      (fun x c => [(34, .int .i64 (x.val : Int)), (35, .int .u32 (modAt (modl chain sp lv false) x : Int)), (6, .int .i64 (x.val : Int)), (7, .pointer (some ⟨c, 0, none⟩))])
      (fun x => .cells #[.int .u32 (modAt (modl chain sp lv false) x : Int)] 22) (fun _ => rfl) ?assign ?body ?done ?stop
     case assign =>
      intro l pre x W K hp hK
      unfold ModEnc
      gi_wp2
      exact hK W.heap.size _ _ (keepsFrom_below ((Below.refl _ _).alloc (Nat.le_refl _) _)) ((KeepP.refl _).alloc (fun b hb => Nat.lt_of_lt_of_le hb hp.2.size) _) ⟨hp.1, hp.2.alloc hp.2.size _⟩ rfl (alloc_last _ _ rfl)
     case body =>
      intro l pre x c W hl hI hc hN
      simp only [List.foldl_cons, List.foldl_nil, List.setIfInBounds_toArray, List.set_cons_succ, List.set_cons_zero]
      have hxr : x.val < rows.length := by rw [HRL.out]; have := x.isLt; have := HML.out; omega
      obtain ⟨r1, hr1⟩ : ∃ r1, rows[x.val]? = some r1 := ⟨rows[x.val], List.getElem?_eq_getElem hxr⟩
      obtain ⟨b, off, b2, c2, rfl, hb, hcl, hrd⟩ := HSH.out _ _ hr1
      obtain ⟨i, hi⟩ : ∃ i, i = x.val := ⟨_, rfl⟩
      have hok : okRow N (modl chain sp lv false) rows x = (decide ((r1.length : Int) = N) && !anyGe (modAt (modl chain sp lv false) x) r1) := by unfold okRow; rw [hr1]; rfl
      obtain ⟨q, hqq⟩ : ∃ q, q = (modAt (modl chain sp lv false) x) := ⟨_, rfl⟩
      rw [← hqq] at hok hc
      rw [← hi] at hcl hxr
      have e2 : W.cell? ⟨w.heap.size + 1, 2, none⟩ = some (.slice (some ⟨b, off, none⟩) rows.length rcap) := by
       rw [World.cell?_of_block (a := ⟨w.heap.size + 1, 2, none⟩) (hI.2.block (w.heap.size + 1) (by omega))]; simp [World.cell?, ha2]
      have eN : W.cell? ⟨w.heap.size, 0, none⟩ = some (.int .i64 N) := by
       rw [World.cell?_of_block (a := ⟨w.heap.size, 0, none⟩) (hI.2.block (w.heap.size) (by omega))]; simp [World.cell?, hp2]
      have er : W.cell? ⟨b, off + i, none⟩ = some (.slice b2 r1.length c2) := by
       rw [World.cell?_of_block (a := ⟨b, off + i, none⟩) (hI.2.block b (by omega)), World.cell?_of_block (a := ⟨b, off + i, none⟩) (hB02.block b (by have := hB0.size; omega))]; exact hcl
      have ec : W.cell? ⟨c, 0, none⟩ = some (.int .u32 (q : Int)) := by simp [World.cell?, hc]
      have hrdW := ((hrd.mono (B' := W0.heap.size) hB0.size).below hB02).mono (B' := W2.heap.size) (by omega) |>.below hI.2
      have hc3 := (hI.2.block (w.heap.size + 1 + 1) (by omega)).trans hc2
      have hcell3 : W.cell? ⟨w.heap.size + 1 + 1, 0, none⟩ = some (.int .i64 0) := by simp [World.cell?, hc3]
      have hfz3 : W.frozen? ⟨w.heap.size + 1 + 1, 0, none⟩ = false := by simp [World.frozen?, hc3]
      have HCF := Lib.hid (fun n => ContainsFunc_lt q c _ r1 _ (W.drewN n) (hrdW.drewN n) ec)
      have hiI : (0 : Int) ≤ (i : Int) := by omega
      have hiJ : (i : Int) < (rows.length : Int) := by omega
      have HOK := Lib.hid hok
      have HII := Lib.hid hI
      have HX := Lib.hid hi
      have HQQ := Lib.hid hqq
      rw [← hi, ← hqq]
      clear hok hI hi hqq hrdW hc hr1 hcl hrd hc3
      by_cases hN1 : (r1.length : Int) = N
      ·have hb1 : ((r1.length : Int) != N) = false := by rw [bne_eq_false_iff_eq]; exact hN1
       have HN1 := Lib.hid hN1
       clear hN1
       obtain ⟨g, hg⟩ : ∃ g, g = anyGe q r1 := ⟨_, rfl⟩
       rw [← hg] at HCF HOK
       clear hg
       cases g
       ·gi_wp2_with fail
        refine wpInR_region_quiet0 (by kernel_rfl) (by kernel_rfl) (by kernel_rfl) ?_
        repeat (go_big_quiet_step ((go_at_call 38; exact quiet_left (HCF.out _))))
        refine wpQuiet_nil ?_
        rintro _ ⟨nq, rfl⟩
        all_goals
         gi_wp2
         refine ⟨keepsFrom_below (below_drewN (Below.refl _ _) _), (KeepP.refl _).drewN _, ?_, below_drewN HII.out.2 _⟩
         intro y hy
         rcases List.mem_append.1 hy with hy | hy
         ·exact HII.out.1 y hy
         ·obtain rfl := List.mem_singleton.1 hy
          rw [HOK.out]; simp [HN1.out]
       ·gi_wp2_with fail
        refine wpInR_region_quiet0 (by kernel_rfl) (by kernel_rfl) (by kernel_rfl) ?_
        repeat (go_big_quiet_step ((go_at_call 38; exact quiet_left (HCF.out _))))
        refine wpQuiet_nil ?_
        rintro _ ⟨nq, rfl⟩
        all_goals
         gi_wp2
         refine ⟨keepsFrom_drewN (keepsFrom_setCell (KeepsFrom.refl _ _) _ _) _, rfl, ⟨x, by simp, by rw [HOK.out]; simp⟩, ?_, ?_⟩
         ·have hc3 := (HII.out.2.block (w.heap.size + 1 + 1) (by omega)).trans hc2
          simp [World.setCell, Array.getElem?_modify, hc3]
         ·exact below_drewN ((hB2.trans (HII.out.2.mono hB2.size)).setCell (by simp; omega) _) _
      ·have hb1 : ((r1.length : Int) != N) = true := by rw [bne_iff_ne]; exact hN1
       have HN1 := Lib.hid hN1
       clear hN1
       gi_wp2_with fail
       refine wpInR_region_quiet0 (by kernel_rfl) (by kernel_rfl) (by kernel_rfl) ?_
       repeat (go_big_quiet_step (fail))
       refine wpQuiet_nil ?_
       rintro _ ⟨nq, rfl⟩
       all_goals
        gi_wp2
        refine ⟨keepsFrom_drewN (keepsFrom_setCell (KeepsFrom.refl _ _) _ _) _, rfl, ⟨x, by simp, by rw [HOK.out]; simp [HN1.out]⟩, ?_, ?_⟩
        ·have hc3 := (HII.out.2.block (w.heap.size + 1 + 1) (by omega)).trans hc2
         simp [World.setCell, Array.getElem?_modify, hc3]
        ·exact below_drewN ((hB2.trans (HII.out.2.mono hB2.size)).setCell (by simp; omega) _) _
     case done =>
      intro D W hD hI hdf
      obtain rfl : r = true := by
       rw [HR.out]
       have h1 := hI.1
       rw [Bool.and_eq_true, List.all_eq_true]
       exact ⟨by simp [HRL.out, HML.out], h1⟩
      have hc3 := (hI.2.block (w.heap.size + 1 + 1) (by omega)).trans hc2
      have hcell3 : W.cell? ⟨w.heap.size + 1 + 1, 0, none⟩ = some (.int .i64 0) := by simp [World.cell?, hc3]
      have hfz3 : W.frozen? ⟨w.heap.size + 1 + 1, 0, none⟩ = false := by simp [World.frozen?, hc3]
      have hD' : w.heap.size + 1 + 1 ≠ D := by have := hD; simp at this; omega
      gi_wp2
      refine postM_mark (v := .int .i64 0) ((Below.heap_setCell _ _ _ _ (by simp; omega)).trans hdf) ?_ rfl ⟨rfl, ?_⟩
      ·have hh := (heap_putObj_ne (w := W.setCell ⟨w.heap.size + 1 + 1, 0, none⟩ (.int .i64 0)) (Obj.deferred none) hD')
       have hcell4 : ((W.setCell ⟨w.heap.size + 1 + 1, 0, none⟩ (.int .i64 0)).putObj D (.deferred none)).cell? ⟨w.heap.size + 1 + 1, 0, none⟩ = some (.int .i64 0) := by
        rw [World.cell?_of_block (a := ⟨w.heap.size + 1 + 1, 0, none⟩) hh]; simp [World.cell?, World.setCell, Array.getElem?_modify, hc3]
       simp [results, Tryz.results16, go_sem, hcell4]
      ·exact ((hB2.trans (hI.2.mono hB2.size)).setCell (by simp; omega) _).trans (belowK_b (w := w) (Nat.le_refl _) _ D _ _ (by have := hB2.size; have := hD; simp at this; omega) ((Below.heap_setCell _ _ _ _ (by simp; omega)).trans hdf) rfl rfl)
     case stop =>
      intro D pre W hD hpre hI hdf
      obtain rfl : r = false := by
       rw [HR.out]
       obtain ⟨x, hx, hxo⟩ := hI.1
       rw [Bool.and_eq_false_iff, List.all_eq_false]
       exact .inr ⟨x, by simp, by rw [hxo]; simp⟩
      have hcell3 : W.cell? ⟨w.heap.size + 1 + 1, 0, none⟩ = some (.int .i64 2) := by simp [World.cell?, hI.2.1]
      have hD' : w.heap.size + 1 + 1 ≠ D := by have := hD; simp at this; omega
      refine postM_mark (v := .int .i64 2) hdf ?_ rfl ⟨rfl, ?_⟩
      ·have hh := (heap_putObj_ne (w := W) (Obj.deferred none) hD')
       have hcell4 : (W.putObj D (.deferred none)).cell? ⟨w.heap.size + 1 + 1, 0, none⟩ = some (.int .i64 2) := by
        simp [World.cell?, hh, hI.2.1]
       simp [results, Tryz.results16, go_sem, hcell4]
      ·exact hI.2.2.trans (belowK_b (w := w) (Nat.le_refl _) _ D _ _ (by have := hB2.size; have := hD; simp at this; omega) hdf rfl rfl)
    ·obtain rfl : R = lv + 1 := by rw [HRR.out]; simp
     have hq : ((rows.length : Int) != (lv : Int) + 1) = false := by rw [bne_eq_false_iff_eq, HRL.out]; try simp
     gi_wp2_with fail
     refine ⟨trivial, (moduli_in _ _ _ _ _).mono ?_⟩
     rintro e w2 ⟨rfl, rfl⟩
     gi_wp2_with fail
     obtain ⟨W2, hW2⟩ : ∃ W2, W2 = ((W0.alloc (.cells #[.pointer (some ⟨w.heap.size, 0, none⟩)] 52)).alloc (.cells #[.int .i64 (lv : Int)] 3)).alloc (.cells #[.bool true] 4) := ⟨_, rfl⟩
     have hB2 : Below w.heap.size w W2 := by rw [hW2]; exact ((hB0.alloc hB0.size _).alloc (by have := hB0.size; simp; omega) _).alloc (by have := hB0.size; simp; omega) _
     have hB02 : Below W0.heap.size W0 W2 := by rw [hW2]; exact (((Below.refl _ W0).alloc (Nat.le_refl _) _).alloc (by simp) _).alloc (by simp; omega) _
     have k0 : W2.heap[W0.heap.size]? = some (.cells #[.pointer (some ⟨w.heap.size, 0, none⟩)] 52) := by
      rw [hW2, Below.heap_alloc _ _ _ (by simp; omega), Below.heap_alloc _ _ _ (by simp)]; exact alloc_last _ _ rfl
     have k1 : W2.heap[W0.heap.size + 1]? = some (.cells #[.int .i64 (lv : Int)] 3) := by
      rw [hW2, Below.heap_alloc _ _ _ (by simp)]; exact alloc_last _ _ (by simp)
     have k2 : W2.heap[W0.heap.size + 2]? = some (.cells #[.bool true] 4) := by
      rw [hW2]; exact alloc_last _ _ (by simp)
     have hz2 := lt_of_heap k2
     have hp2 := (hB02.block w.heap.size (by omega)).trans HP0.out
     have ha2 := (hB02.block (w.heap.size + 1) (by omega)).trans HA0.out
     have hc2 := (hB02.block (w.heap.size + 1 + 1) (by omega)).trans hc0
     have hr2 := (HR0.out.mono (B' := W0.heap.size) hB0.size).below hB02
     have hrow2 := (HROW.out.mono (B' := W0.heap.size) hB0.size).below hB02
     rw [← hW2]
     clear hW2
     have hSC := hr2.blk (by simp; omega)
     refine wpIn_range_box (n := 5) (by omega) rfl (enters_of Tryz.func40 (by kernel_rfl) rfl) (S := fun b => b < W2.heap.size) (w := W2.drewN n1) (fun _ h => h)
      (moduli_stops 4 (by omega) W0.heap.size w.heap.size (fun b => b < W2.heap.size) N pr pw wt er cv chain sp lv true W0.heap.size hl2 hlc (W2.drewN n1) (fun _ h => h) (by omega) (by omega) hz2 (by omega)
       (fun a n c b off h1 h2 => Nat.lt_of_lt_of_le (hSC a n c b off h1 h2) (by omega)) k0 k1 k2 hp2 (hr2.drewN n1)) (fun _ => rfl)
      (fun pre W => (∀ x ∈ pre, okRow N (modl chain sp lv true) rows x = true) ∧ Below W2.heap.size W2 W)
      (fun pre W => (∃ x ∈ pre, okRow N (modl chain sp lv true) rows x = false) ∧ W.heap[w.heap.size + 1 + 1]? = some (.cells #[.int .i64 2] 36) ∧ Below w.heap.size w W)
      ((ownFrom_pure _ _).and (ownFrom_below (Nat.le_refl _) (Nat.le_refl _)))
      ((ownFrom_pure _ _).and ((ownFrom_cells _ _ (fun _ => w.heap.size + 1 + 1) (fun _ => #[.int .i64 2]) 36 (0, 0) (fun _ _ h => h) (fun _ _ h => h)).and (ownFrom_below (Nat.le_refl _) hB2.size)))
      ⟨by simp, below_drewN (Below.refl _ _) _⟩
      (fun x c => [(34, .int .i64 (x.val : Int)), (35, .int .u32 (modAt (modl chain sp lv true) x : Int)), (6, .int .i64 (x.val : Int)), (7, .pointer (some ⟨c, 0, none⟩))])
      (fun x => .cells #[.int .u32 (modAt (modl chain sp lv true) x : Int)] 22) (fun _ => rfl) ?assign ?body ?done ?stop
     case assign =>
      intro l pre x W K hp hK
      unfold ModEnc
      gi_wp2
      exact hK W.heap.size _ _ (keepsFrom_below ((Below.refl _ _).alloc (Nat.le_refl _) _)) ((KeepP.refl _).alloc (fun b hb => Nat.lt_of_lt_of_le hb hp.2.size) _) ⟨hp.1, hp.2.alloc hp.2.size _⟩ rfl (alloc_last _ _ rfl)
     case body =>
      intro l pre x c W hl hI hc hN
      simp only [List.foldl_cons, List.foldl_nil, List.setIfInBounds_toArray, List.set_cons_succ, List.set_cons_zero]
      have hxr : x.val < rows.length := by rw [HRL.out]; have := x.isLt; have := HML.out; omega
      obtain ⟨r1, hr1⟩ : ∃ r1, rows[x.val]? = some r1 := ⟨rows[x.val], List.getElem?_eq_getElem hxr⟩
      obtain ⟨b, off, b2, c2, rfl, hb, hcl, hrd⟩ := HSH.out _ _ hr1
      obtain ⟨i, hi⟩ : ∃ i, i = x.val := ⟨_, rfl⟩
      have hok : okRow N (modl chain sp lv true) rows x = (decide ((r1.length : Int) = N) && !anyGe (modAt (modl chain sp lv true) x) r1) := by unfold okRow; rw [hr1]; rfl
      obtain ⟨q, hqq⟩ : ∃ q, q = (modAt (modl chain sp lv true) x) := ⟨_, rfl⟩
      rw [← hqq] at hok hc
      rw [← hi] at hcl hxr
      have e2 : W.cell? ⟨w.heap.size + 1, 2, none⟩ = some (.slice (some ⟨b, off, none⟩) rows.length rcap) := by
       rw [World.cell?_of_block (a := ⟨w.heap.size + 1, 2, none⟩) (hI.2.block (w.heap.size + 1) (by omega))]; simp [World.cell?, ha2]
      have eN : W.cell? ⟨w.heap.size, 0, none⟩ = some (.int .i64 N) := by
       rw [World.cell?_of_block (a := ⟨w.heap.size, 0, none⟩) (hI.2.block (w.heap.size) (by omega))]; simp [World.cell?, hp2]
      have er : W.cell? ⟨b, off + i, none⟩ = some (.slice b2 r1.length c2) := by
       rw [World.cell?_of_block (a := ⟨b, off + i, none⟩) (hI.2.block b (by omega)), World.cell?_of_block (a := ⟨b, off + i, none⟩) (hB02.block b (by have := hB0.size; omega))]; exact hcl
      have ec : W.cell? ⟨c, 0, none⟩ = some (.int .u32 (q : Int)) := by simp [World.cell?, hc]
      have hrdW := ((hrd.mono (B' := W0.heap.size) hB0.size).below hB02).mono (B' := W2.heap.size) (by omega) |>.below hI.2
      have hc3 := (hI.2.block (w.heap.size + 1 + 1) (by omega)).trans hc2
      have hcell3 : W.cell? ⟨w.heap.size + 1 + 1, 0, none⟩ = some (.int .i64 0) := by simp [World.cell?, hc3]
      have hfz3 : W.frozen? ⟨w.heap.size + 1 + 1, 0, none⟩ = false := by simp [World.frozen?, hc3]
      have HCF := Lib.hid (fun n => ContainsFunc_lt q c _ r1 _ (W.drewN n) (hrdW.drewN n) ec)
      have hiI : (0 : Int) ≤ (i : Int) := by omega
      have hiJ : (i : Int) < (rows.length : Int) := by omega
      have HOK := Lib.hid hok
      have HII := Lib.hid hI
      have HX := Lib.hid hi
      have HQQ := Lib.hid hqq
      rw [← hi, ← hqq]
      clear hok hI hi hqq hrdW hc hr1 hcl hrd hc3
      by_cases hN1 : (r1.length : Int) = N
      ·have hb1 : ((r1.length : Int) != N) = false := by rw [bne_eq_false_iff_eq]; exact hN1
       have HN1 := Lib.hid hN1
       clear hN1
       obtain ⟨g, hg⟩ : ∃ g, g = anyGe q r1 := ⟨_, rfl⟩
       rw [← hg] at HCF HOK
       clear hg
       cases g
       ·gi_wp2_with fail
        refine wpInR_region_quiet0 (by kernel_rfl) (by kernel_rfl) (by kernel_rfl) ?_
        repeat (go_big_quiet_step ((go_at_call 38; exact quiet_left (HCF.out _))))
        refine wpQuiet_nil ?_
        rintro _ ⟨nq, rfl⟩
        all_goals
         gi_wp2
         refine ⟨keepsFrom_below (below_drewN (Below.refl _ _) _), (KeepP.refl _).drewN _, ?_, below_drewN HII.out.2 _⟩
         intro y hy
         rcases List.mem_append.1 hy with hy | hy
         ·exact HII.out.1 y hy
         ·obtain rfl := List.mem_singleton.1 hy
          rw [HOK.out]; simp [HN1.out]
       ·gi_wp2_with fail
        refine wpInR_region_quiet0 (by kernel_rfl) (by kernel_rfl) (by kernel_rfl) ?_
        repeat (go_big_quiet_step ((go_at_call 38; exact quiet_left (HCF.out _))))
        refine wpQuiet_nil ?_
        rintro _ ⟨nq, rfl⟩
        all_goals
         gi_wp2
         refine ⟨keepsFrom_drewN (keepsFrom_setCell (KeepsFrom.refl _ _) _ _) _, rfl, ⟨x, by simp, by rw [HOK.out]; simp⟩, ?_, ?_⟩
         ·have hc3 := (HII.out.2.block (w.heap.size + 1 + 1) (by omega)).trans hc2
          simp [World.setCell, Array.getElem?_modify, hc3]
         ·exact below_drewN ((hB2.trans (HII.out.2.mono hB2.size)).setCell (by simp; omega) _) _
      ·have hb1 : ((r1.length : Int) != N) = true := by rw [bne_iff_ne]; exact hN1
       have HN1 := Lib.hid hN1
       clear hN1
       gi_wp2_with fail
       refine wpInR_region_quiet0 (by kernel_rfl) (by kernel_rfl) (by kernel_rfl) ?_
       repeat (go_big_quiet_step (fail))
       refine wpQuiet_nil ?_
       rintro _ ⟨nq, rfl⟩
       all_goals
        gi_wp2
        refine ⟨keepsFrom_drewN (keepsFrom_setCell (KeepsFrom.refl _ _) _ _) _, rfl, ⟨x, by simp, by rw [HOK.out]; simp [HN1.out]⟩, ?_, ?_⟩
        ·have hc3 := (HII.out.2.block (w.heap.size + 1 + 1) (by omega)).trans hc2
         simp [World.setCell, Array.getElem?_modify, hc3]
        ·exact below_drewN ((hB2.trans (HII.out.2.mono hB2.size)).setCell (by simp; omega) _) _
     case done =>
      intro D W hD hI hdf
      obtain rfl : r = true := by
       rw [HR.out]
       have h1 := hI.1
       rw [Bool.and_eq_true, List.all_eq_true]
       exact ⟨by simp [HRL.out, HML.out], h1⟩
      have hc3 := (hI.2.block (w.heap.size + 1 + 1) (by omega)).trans hc2
      have hcell3 : W.cell? ⟨w.heap.size + 1 + 1, 0, none⟩ = some (.int .i64 0) := by simp [World.cell?, hc3]
      have hfz3 : W.frozen? ⟨w.heap.size + 1 + 1, 0, none⟩ = false := by simp [World.frozen?, hc3]
      have hD' : w.heap.size + 1 + 1 ≠ D := by have := hD; simp at this; omega
      gi_wp2
      refine postM_mark (v := .int .i64 0) ((Below.heap_setCell _ _ _ _ (by simp; omega)).trans hdf) ?_ rfl ⟨rfl, ?_⟩
      ·have hh := (heap_putObj_ne (w := W.setCell ⟨w.heap.size + 1 + 1, 0, none⟩ (.int .i64 0)) (Obj.deferred none) hD')
       have hcell4 : ((W.setCell ⟨w.heap.size + 1 + 1, 0, none⟩ (.int .i64 0)).putObj D (.deferred none)).cell? ⟨w.heap.size + 1 + 1, 0, none⟩ = some (.int .i64 0) := by
        rw [World.cell?_of_block (a := ⟨w.heap.size + 1 + 1, 0, none⟩) hh]; simp [World.cell?, World.setCell, Array.getElem?_modify, hc3]
       simp [results, Tryz.results16, go_sem, hcell4]
      ·exact ((hB2.trans (hI.2.mono hB2.size)).setCell (by simp; omega) _).trans (belowK_b (w := w) (Nat.le_refl _) _ D _ _ (by have := hB2.size; have := hD; simp at this; omega) ((Below.heap_setCell _ _ _ _ (by simp; omega)).trans hdf) rfl rfl)
     case stop =>
      intro D pre W hD hpre hI hdf
      obtain rfl : r = false := by
       rw [HR.out]
       obtain ⟨x, hx, hxo⟩ := hI.1
       rw [Bool.and_eq_false_iff, List.all_eq_false]
       exact .inr ⟨x, by simp, by rw [hxo]; simp⟩
      have hcell3 : W.cell? ⟨w.heap.size + 1 + 1, 0, none⟩ = some (.int .i64 2) := by simp [World.cell?, hI.2.1]
      have hD' : w.heap.size + 1 + 1 ≠ D := by have := hD; simp at this; omega
      refine postM_mark (v := .int .i64 2) hdf ?_ rfl ⟨rfl, ?_⟩
      ·have hh := (heap_putObj_ne (w := W) (Obj.deferred none) hD')
       have hcell4 : (W.putObj D (.deferred none)).cell? ⟨w.heap.size + 1 + 1, 0, none⟩ = some (.int .i64 2) := by
        simp [World.cell?, hh, hI.2.1]
       simp [results, Tryz.results16, go_sem, hcell4]
      ·exact hI.2.2.trans (belowK_b (w := w) (Nat.le_refl _) _ D _ _ (by have := hB2.size; have := hD; simp at this; omega) hdf rfl rfl)
   ·obtain rfl : r = false := by
     rw [HR.out, show decide (rows.length = (modl chain sp lv special).length) = false by rw [HML.out]; simp [hrl]]; rfl
    cases special
    ·obtain rfl : lv = R := by rw [HRR.out]; simp
     have hq : ((rows.length : Int) != (lv : Int)) = true := by rw [bne_iff_ne]; omega
     clear hrl
     gi_wp2
     refine postM_ret (v := .int .i64 2) ?_ rfl ⟨rfl, ?_⟩
     ·simp [results, Tryz.results16, go_sem, hcell]
     ·exact (below_drewN hB0 n1).setCell (by simp; omega) _
    ·obtain rfl : R = lv + 1 := by rw [HRR.out]; simp
     have hq : ((rows.length : Int) != (lv : Int) + 1) = true := by rw [bne_iff_ne]; omega
     clear hrl
     gi_wp2
     refine postM_ret (v := .int .i64 2) ?_ rfl ⟨rfl, ?_⟩
     ·simp [results, Tryz.results16, go_sem, hcell]
     ·exact (below_drewN hB0 n1).setCell (by simp; omega) _
end G
/- Walks: an element whose rows a function fills. -/
namespace G
open Go.RowKit Go.Shelf Go.BigFrame
attribute [local go_sem] Oper.semAt_some
def zrow (n : Nat) : Array Value := (List.replicate n (Value.int .u32 0)).toArray
theorem infoU32 : (Tryz.prog.info? 22).map (fun i => (i.zero, i.size, i.bytes)) = some (some (.int .u32 0), 1, 4) := by kernel_rfl
theorem infoRow : (Tryz.prog.info? 23).map (fun i => (i.zero, i.size, i.bytes)) = some (some (.slice none 0 0), 1, 24) := by kernel_rfl
theorem make_u32 (n : Nat) (hn : n ≤ 1000) (W : World) : (Instr.makeSlice 23 (.int .i64 (n : Int)) (.int .i64 (n : Int))).run Tryz.prog W = .ok (.slice (some ⟨W.heap.size, 0, none⟩) n n) (W.alloc (.cells (zrow n) 22)) := by
 obtain ⟨i0, hi, hz, h1, h2⟩ := info_parts infoU32
 have := run_make (P := Tryz.prog) W 23 22 i0 (.int .u32 0) Tryz.underlying23 hi hz .i64 .i64 (n : Int) (n : Int) (by omega) (by omega) (by rw [h2]; omega) (by omega)
 simp only [Int.toNat_natCast, h1] at this
 rw [this]
 have hz : madeCells (Value.int IntKind.u32 0).cells (n * 1) = zrow n := by
  unfold madeCells zrow
  apply Array.ext
  ·simp
  ·intro i h1 h2
   have : (Value.int IntKind.u32 0).cells = #[.int .u32 0] := rfl
   simp [this, Nat.mod_one]
 rw [hz]
def Fills {k : Nat} (F : FuncId) (caps : Array Value) (n : Nat) (encs : Fin k → Array Value) (rowOf : Fin k → List Nat) (w : World) : Prop :=
 ∀ (x : Fin k) (g : Nat) (W : World), Below w.heap.size w W → w.heap.size ≤ g → W.heap[g]? = some (.cells (zrow n) 22) →
  Calls Tryz.prog F (encs x ++ #[.slice (some ⟨g, 0, none⟩) n n] ++ caps) W fun e W' => e = .returned (.tuple #[]) ∧ W'.heap[g]? = some (.cells ((rowOf x).map u32V).toArray 22) ∧ W.grownBy W' (some g)
def RowsAre {k : Nat} (W : World) (B n : Nat) (rowOf : Fin k → List Nat) (pre : List (Fin k)) (vs : List Value) : Prop :=
 vs.length = pre.length ∧ ∀ (j : Nat) (x : Fin k), pre[j]? = some x → ∃ g, vs[j]? = some (.slice (some ⟨g, 0, none⟩) n n) ∧ B ≤ g ∧ W.heap[g]? = some (.cells ((rowOf x).map u32V).toArray 22)
theorem RowsAre.kept {k : Nat} {W W' : World} {B n : Nat} {rowOf : Fin k → List Nat} {pre : List (Fin k)} {vs : List Value} (h : RowsAre W B n rowOf pre vs) (hk : ∀ (g : Nat) (c : Array Value), B ≤ g → W.heap[g]? = some (.cells c 22) → W'.heap[g]? = W.heap[g]?) : RowsAre W' B n rowOf pre vs :=
 ⟨h.1, fun j x hj => by obtain ⟨g, h1, h2, h3⟩ := h.2 j x hj; exact ⟨g, h1, h2, (hk g _ h2 h3).trans h3⟩⟩
theorem RowsAre.snoc {k : Nat} {W : World} {B n : Nat} {rowOf : Fin k → List Nat} {pre : List (Fin k)} {vs : List Value} (h : RowsAre W B n rowOf pre vs) (x : Fin k) (g : Nat) (hB : B ≤ g) (hg : W.heap[g]? = some (.cells ((rowOf x).map u32V).toArray 22)) :
  RowsAre W B n rowOf (pre ++ [x]) (vs ++ [.slice (some ⟨g, 0, none⟩) n n]) := by
 refine ⟨by simp [h.1], fun j y hj => ?_⟩
 rcases Nat.lt_trichotomy j pre.length with hlt | rfl | hgt
 ·rw [List.getElem?_append_left hlt] at hj
  obtain ⟨g', h1, h2, h3⟩ := h.2 j y hj
  exact ⟨g', by rw [List.getElem?_append_left (by rw [h.1]; exact hlt)]; exact h1, h2, h3⟩
 ·rw [List.getElem?_append_right (Nat.le_refl _)] at hj
  simp at hj
  subst hj
  exact ⟨g, by rw [← h.1, List.getElem?_append_right (Nat.le_refl _)]; simp, hB, hg⟩
 ·rw [List.getElem?_append_right (by omega)] at hj
  have : j - pre.length ≠ 0 := by omega
  obtain ⟨m, hm⟩ := Nat.exists_eq_succ_of_ne_zero this
  rw [hm] at hj
  simp at hj
theorem RowsAre.nil {k : Nat} (W : World) (B n : Nat) (rowOf : Fin k → List Nat) : RowsAre W B n rowOf [] [] := ⟨rfl, fun j x hj => by simp at hj⟩
theorem RowsAre.rows {k : Nat} {W : World} {B n : Nat} {rowOf : Fin k → List Nat} {pre : List (Fin k)} {vs : List Value} (h : RowsAre W B n rowOf pre vs) (hn : n ≤ maxLen) (hl : ∀ x, (rowOf x).length = n) {base e : Nat} {v : Value} (ho : W.owns base e 1 v vs.length vs) :
  W.rows u32V W.heap.size v (pre.map rowOf) := by
 refine ⟨vs, by simp [h.1], ho.reads, fun i r hr => ?_⟩
 rw [List.getElem?_map] at hr
 obtain ⟨x, hx, rfl⟩ := Option.map_eq_some_iff.1 hr
 obtain ⟨g, h1, h2, h3⟩ := h.2 i x hx
 refine ⟨_, h1, ?_⟩
 have := reads_block h3 (lt_of_heap h3) n (by simp [hl]) hn
 simpa [hl] using this
def EachI {k : Nat} (w W2 : World) (S : Nat → Prop) (b n : Nat) (lv : Int) (special : Bool) (rowOf : Fin k → List Nat) (pre : List (Fin k)) (W : World) : Prop :=
 (∃ sv vs, W.heap[b]? = some (.cells #[.int .i64 lv, .bool special, sv] 28) ∧ W.owns W2.heap.size 23 1 sv vs.length vs ∧ RowsAre W W2.heap.size n rowOf pre vs) ∧ KeepP S W2 W ∧ Below w.heap.size w W ∧ W2.heap.size ≤ W.heap.size
theorem eachI_own {k : Nat} (w W2 : World) (S : Nat → Prop) (hS : ∀ b, S b → b < W2.heap.size) (hw : w.heap.size ≤ W2.heap.size) (b n : Nat) (lv : Int) (special : Bool) (rowOf : Fin k → List Nat) : OwnFrom W2.heap.size (EachI w W2 S b n lv special rowOf) := by
 rintro pre W W' row ⟨⟨sv, vs, h1, h2, h3⟩, h4, h5, h6⟩ hg hr
 have hc : ∀ (g : Nat) (c : Array Value) (t : TypeId) (fz : Nat × Nat), W.heap[g]? = some (.cells c t fz) → W'.heap[g]? = W.heap[g]? := fun g c t fz h => grownBy_keeps_cells hg (fun r e => (hr r e).2) h rfl
 exact ⟨⟨sv, vs, (hc _ _ _ _ h1).trans h1, h2.keptBy (fun g c fz _ h => hc g c _ fz h), h3.kept (fun g c _ h => hc g c _ _ h)⟩, h4.grown hg (fun b hb => Nat.lt_of_lt_of_le (hS b hb) h6) (fun r e hb => by have := (hr r e).1; have := hS _ hb; omega),
  h5.grown hg h5.size (fun r e => by have := (hr r e).1; omega), Nat.le_trans h6 hg.size⟩
def FreshRows (w w' : World) (rv : Value) (rows : List (List Nat)) : Prop := (∀ W' : World, (∀ g, w.heap.size ≤ g → W'.heap[g]? = w'.heap[g]?) → W'.rows u32V W'.heap.size rv rows) ∧ w'.rowsO u32V w.heap.size 23 22 rv rows
theorem FreshRows.now {w w' : World} {rv : Value} {rows : List (List Nat)} (h : FreshRows w w' rv rows) : w'.rows u32V w'.heap.size rv rows := h.1 w' (fun _ _ => rfl)
theorem RowsAre.rowsO {k : Nat} {W : World} {B n : Nat} {rowOf : Fin k → List Nat} {pre : List (Fin k)} {vs : List Value} (h : RowsAre W B n rowOf pre vs) (hn : n ≤ maxLen) (hl : ∀ x, (rowOf x).length = n) {base : Nat} {v : Value} (hB : base ≤ B) (ho : W.owns base 23 1 v vs.length vs) :
  W.rowsO u32V base 23 22 v (pre.map rowOf) := by
 have hlen : vs.length = (pre.map rowOf).length := by simp [h.1]
 refine ⟨vs, hlen, by rw [← hlen]; exact ho, fun i r hr => ?_⟩
 rw [List.getElem?_map] at hr
 obtain ⟨x, hx, rfl⟩ := Option.map_eq_some_iff.1 hr
 obtain ⟨g, h1, h2, h3⟩ := h.2 i x hx
 refine ⟨_, h1, ?_⟩
 rw [hl x]
 exact ⟨by simp [hl], .inr ⟨g, n, _, (0, 0), rfl, Nat.le_trans hB h2, h3, okFz_zero _, Nat.le_refl _, hn, by simp [hl], by rw [Nat.mul_one]; exact List.take_of_length_le (by simp [hl])⟩⟩
theorem each_any (n : Nat) (hn : n ≤ 1000) (pr pw wt er : Int) (cv : Value) (chain : List Nat) (sp lv : Nat) (special : Bool) (p : Nat) (w : World) (hlv : lv ≤ chain.length) (hc24 : chain.length ≤ 24) (hl1 : 1 ≤ lv) (hmb : ∀ x, modAt (modl chain sp lv special) x < 4294967296) (hr : w.reads w.heap.size cv (chain.map u32V))
  (hp : w.heap[p]? = some (.cells #[.int .i64 (n : Int), .int .u32 pr, .int .i64 pw, cv, .int .u32 (sp : Int), .int .i64 wt, .int .u32 er] 25))
  (F : FuncId) (caps : Array Value) (rowOf : Fin (modl chain sp lv special).length → List Nat) (hrl : ∀ x, (rowOf x).length = n)
  (hF : Fills F caps n (fun x => #[.int .i64 (x.val : Int), .int .u64 (modAt (modl chain sp lv special) x : Int)]) rowOf w)
  (heF : ∀ args W, (callFunc F args).run Tryz.prog W = .ok (.enter F args) W) :
  Calls Tryz.prog 32 #[.pointer (some ⟨p, 0, none⟩), .int .i64 (lv : Int), .bool special, .func (.func F) #[] caps] w
   fun e w' => (∃ rv, e = .returned (.agg #[.int .i64 (lv : Int), .bool special, rv]) ∧ FreshRows w w' rv ((List.finRange _).map rowOf)) ∧ Below w.heap.size w w' := by
 have hpl := lt_of_heap hp
 have hmk := make_u32 n hn
 have HMB := Lib.hid hmb
 have HHF := Lib.hid hF
 have HEF := Lib.hid heF
 have HP := Lib.hid hp
 have HR := Lib.hid hr
 clear hF heF hp hr hmb
 refine (callsIn_wide (n := 5)).1 ?_
 refine callsIn_of_wp_marks Tryz.func32 rfl trivial ?_ rfl
 simp only [Tryz.ntmps32, List.size_toArray, List.length_cons, List.length_nil, Nat.reduceAdd, Nat.reduceSub, Array.replicate_succ, Array.replicate_zero, List.push_toArray, List.append_toArray, List.nil_append, List.cons_append]
 gi_wp2_with fail
 refine ⟨trivial, (moduli_in _ _ _ _ _).mono ?_⟩
 rintro e w2 ⟨rfl, rfl⟩
 gi_wp2_with fail
 obtain ⟨W2, hW2⟩ : ∃ W2, W2 = (((((((w.alloc (.cells #[.pointer (some ⟨p, 0, none⟩)] 52)).alloc (.cells #[.func (.func F) #[] caps] 68)).alloc (.cells #[.int .i64 0, .bool false, .slice none 0 0] 28)).alloc (.cells #[.int .i64 (lv : Int), .bool special, .slice none 0 0] 28)).alloc (.cells #[.pointer (some ⟨p, 0, none⟩)] 52)).alloc (.cells #[.int .i64 (lv : Int)] 3)).alloc (.cells #[.bool special] 4)) := ⟨_, rfl⟩
 have hz2 : W2.heap.size = w.heap.size + 7 := by rw [hW2]; simp
 have hB2 : Below w.heap.size w W2 := by
  rw [hW2]; exact ((((((((Below.refl _ w).alloc (Nat.le_refl _) _).alloc (by simp) _).alloc (by simp; omega) _).alloc (by simp; omega) _).alloc (by simp; omega) _).alloc (by simp; omega) _).alloc (by simp; omega) _)
 have l0 : W2.heap[w.heap.size]? = some (.cells #[.pointer (some ⟨p, 0, none⟩)] 52) := by rw [hW2]; repeat (first | (refine alloc_last _ _ ?_; simp only [World.size_alloc]; done) | (rw [Below.heap_alloc]; rotate_left; (simp only [World.size_alloc]; omega)))
 have l1 : W2.heap[w.heap.size + 1]? = some (.cells #[.func (.func F) #[] caps] 68) := by rw [hW2]; repeat (first | (refine alloc_last _ _ ?_; simp only [World.size_alloc]; done) | (rw [Below.heap_alloc]; rotate_left; (simp only [World.size_alloc]; omega)))
 have l2 : W2.heap[w.heap.size + 1 + 1]? = some (.cells #[.int .i64 0, .bool false, .slice none 0 0] 28) := by rw [hW2]; repeat (first | (refine alloc_last _ _ ?_; simp only [World.size_alloc]; done) | (rw [Below.heap_alloc]; rotate_left; (simp only [World.size_alloc]; omega)))
 have l3 : W2.heap[w.heap.size + 1 + 1 + 1]? = some (.cells #[.int .i64 (lv : Int), .bool special, .slice none 0 0] 28) := by rw [hW2]; repeat (first | (refine alloc_last _ _ ?_; simp only [World.size_alloc]; done) | (rw [Below.heap_alloc]; rotate_left; (simp only [World.size_alloc]; omega)))
 have l4 : W2.heap[w.heap.size + 1 + 1 + 1 + 1]? = some (.cells #[.pointer (some ⟨p, 0, none⟩)] 52) := by rw [hW2]; repeat (first | (refine alloc_last _ _ ?_; simp only [World.size_alloc]; done) | (rw [Below.heap_alloc]; rotate_left; (simp only [World.size_alloc]; omega)))
 have l5 : W2.heap[w.heap.size + 1 + 1 + 1 + 1 + 1]? = some (.cells #[.int .i64 (lv : Int)] 3) := by rw [hW2]; repeat (first | (refine alloc_last _ _ ?_; simp only [World.size_alloc]; done) | (rw [Below.heap_alloc]; rotate_left; (simp only [World.size_alloc]; omega)))
 have l6 : W2.heap[w.heap.size + 1 + 1 + 1 + 1 + 2]? = some (.cells #[.bool special] 4) := by rw [hW2]; repeat (first | (refine alloc_last _ _ ?_; simp only [World.size_alloc]; done) | (rw [Below.heap_alloc]; rotate_left; (simp only [World.size_alloc]; omega)))
 rw [← hW2]
 clear hW2
 have hp2 := (hB2.block p hpl).trans HP.out
 have hr2 := HR.out.below hB2
 have hSC := HR.out.blk (by simp; omega)
 obtain ⟨i0, hi0, hz0, hz1, hzb⟩ := info_parts infoRow
 have hS : ∀ b, (b < W2.heap.size ∧ b ≠ w.heap.size + 1 + 1 + 1) → b < W2.heap.size := fun _ h => h.1
 have hml : (modl chain sp lv special).length ≤ 25 := by rw [modl_length _ _ _ _ hlv]; cases special <;> simp <;> omega
 refine wpIn_range_tmp (n := 5) (by omega) rfl (enters_of Tryz.func40 (by kernel_rfl) rfl) (S := fun b => b < W2.heap.size ∧ b ≠ w.heap.size + 1 + 1 + 1) (w := W2) hS
  (moduli_stops 4 (by omega) (w.heap.size + 1 + 1 + 1 + 1) p (fun b => b < W2.heap.size ∧ b ≠ w.heap.size + 1 + 1 + 1) (n : Int) pr pw wt er cv chain sp lv special w.heap.size hlv (by omega) W2 hS ⟨by omega, by omega⟩ ⟨by omega, by omega⟩ ⟨by omega, by omega⟩ ⟨by omega, by omega⟩
   (fun a n c b off h1 h2 => by have := hSC a n c b off h1 h2; omega) l4 l5 l6 hp2 hr2) (fun _ => rfl)
  (EachI w W2 (fun b => b < W2.heap.size ∧ b ≠ w.heap.size + 1 + 1 + 1) (w.heap.size + 1 + 1 + 1) n (lv : Int) special rowOf)
  (fun _ _ => False) (eachI_own w W2 _ hS hB2.size _ _ _ _ _) (fun _ _ _ _ h _ _ => h)
  ⟨⟨_, [], l3, World.owns_nil _ _ _ _, RowsAre.nil _ _ _ _⟩, KeepP.refl _, hB2, Nat.le_refl _⟩
  (fun x => [(20, .int .i64 (x.val : Int)), (21, .int .u32 (modAt (modl chain sp lv special) x : Int)), (10, .int .i64 (x.val : Int)), (11, .int .u32 (modAt (modl chain sp lv special) x : Int))])
  ?assign ?body ?done ?stop
 case assign =>
  intro l pre x W K hK
  unfold ModEnc
  gi_wp2
 case stop =>
  intro D pre W hD hpre hI hdf
  exact hI.elim
 case done =>
  rintro D W hD ⟨⟨sv, vs, h1, h2, h3⟩, hk, hB, hsz⟩ hdf
  have hlt := lt_of_heap h1
  have e0 : W.cell? ⟨w.heap.size + 1 + 1 + 1, 0, none⟩ = some (.int .i64 (lv : Int)) := by simp [World.cell?, h1]
  have e1 : W.cell? ⟨w.heap.size + 1 + 1 + 1, 1, none⟩ = some (.bool special) := by simp [World.cell?, h1]
  have e2 : W.cell? ⟨w.heap.size + 1 + 1 + 1, 2, none⟩ = some sv := by simp [World.cell?, h1]
  have h4 := (hk (w.heap.size + 1 + 1) ⟨by omega, by omega⟩).trans l2
  have f0 : W.cell? ⟨w.heap.size + 1 + 1, 0, none⟩ = some (.int .i64 0) := by simp [World.cell?, h4]
  have f1 : W.cell? ⟨w.heap.size + 1 + 1, 1, none⟩ = some (.bool false) := by simp [World.cell?, h4]
  have f2 : W.cell? ⟨w.heap.size + 1 + 1, 2, none⟩ = some (.slice none 0 0) := by simp [World.cell?, h4]
  have g0 : W.frozen? ⟨w.heap.size + 1 + 1, 0, none⟩ = false := by simp [World.frozen?, h4]
  have g1 : W.frozen? ⟨w.heap.size + 1 + 1, 1, none⟩ = false := by simp [World.frozen?, h4]
  have g2 : W.frozen? ⟨w.heap.size + 1 + 1, 2, none⟩ = false := by simp [World.frozen?, h4]
  obtain ⟨sa, scap, rfl⟩ := reads_len h2.reads
  gi_wp2
  have hDne : w.heap.size + 1 + 1 ≠ D := by omega
  obtain ⟨W5, hW5⟩ : ∃ W5, W5 = (((W.setCell ⟨w.heap.size + 1 + 1, 0, none⟩ (.int .i64 (lv : Int))).setCell ⟨w.heap.size + 1 + 1, 1, none⟩ (.bool special)).setCell ⟨w.heap.size + 1 + 1, 2, none⟩ (.slice sa vs.length scap)) := ⟨_, rfl⟩
  have hd5 : W5.heap[D]? = some (.deferred (some [])) := by
   rw [hW5]
   iterate 3 rw [Below.heap_setCell _ _ _ _ (by simp; omega)]
   exact hdf
  have hB5 : Below w.heap.size w W5 := by
   rw [hW5]; exact ((hB.setCell (by simp; omega) _).setCell (by simp; omega) _).setCell (by simp; omega) _
  have h5' : W5.heap[w.heap.size + 1 + 1]? = some (.cells #[.int .i64 (lv : Int), .bool special, .slice sa vs.length scap] 28) := by
   rw [hW5]; simp [World.setCell, Array.getElem?_modify, h4]
  have hk5 : ∀ (g : Nat), W2.heap.size ≤ g → W5.heap[g]? = W.heap[g]? := by
   intro g hg
   rw [hW5]
   iterate 3 rw [Below.heap_setCell _ _ _ _ (by simp; omega)]
  rw [← hW5]
  clear hW5 e0 e1 e2 f0 f1 f2 g0 g1 g2
  obtain ⟨W6, hW6⟩ : ∃ W6, W6 = W5.putObj D (.deferred none) := ⟨_, rfl⟩
  have h5 : W6.heap[w.heap.size + 1 + 1]? = some (.cells #[.int .i64 (lv : Int), .bool special, .slice sa vs.length scap] 28) := by
   rw [hW6, heap_putObj_ne _ hDne]; exact h5'
  have hk6 : ∀ (g : Nat) (c : Array Value) (t : TypeId) (fz : Nat × Nat), W2.heap.size ≤ g → W.heap[g]? = some (.cells c t fz) → W6.heap[g]? = W.heap[g]? := by
   intro g c t fz hg hh
   have hgD : g ≠ D := by rintro rfl; rw [hdf] at hh; cases hh
   rw [hW6, heap_putObj_ne _ hgD]; exact hk5 g hg
  have hB6 : Below w.heap.size w W6 := by
   rw [hW6]
   exact hB5.trans (belowK_b (w := w) (Nat.le_refl _) _ D _ _ (by omega) hd5 rfl rfl)
  have c0 : W6.cell? ⟨w.heap.size + 1 + 1, 0, none⟩ = some (.int .i64 (lv : Int)) := by simp [World.cell?, h5]
  have c1 : W6.cell? ⟨w.heap.size + 1 + 1, 1, none⟩ = some (.bool special) := by simp [World.cell?, h5]
  have c2 : W6.cell? ⟨w.heap.size + 1 + 1, 2, none⟩ = some (.slice sa vs.length scap) := by simp [World.cell?, h5]
  refine postM_mark (v := .agg #[.int .i64 (lv : Int), .bool special, .slice sa vs.length scap]) hd5 ?_ rfl ?_
  ·rw [← hW6]
   simp [results, Tryz.results32, go_sem, c0, c1, c2]
  ·rw [← hW6]
   exact ⟨⟨_, rfl, fun W' hs => (h3.kept (fun g c hg hh => (hs g (by omega)).trans (hk6 g c _ _ hg hh))).rows (by unfold maxLen; omega) hrl (h2.keptBy (fun g c fz hv hh => (hs g (by have := h2.lt _ hv; omega)).trans (hk6 g c _ _ (h2.lt _ hv).1 hh))),
    (h3.kept (fun g c hg hh => hk6 g c _ _ hg hh)).rowsO (by unfold maxLen; omega) hrl hB2.size ((h2.keptBy (fun g c fz hv hh => hk6 g c _ _ (h2.lt _ hv).1 hh)).mono hB2.size)⟩, hB6⟩
 case body =>
  rintro l pre x W hl ⟨⟨sv, vs, h1, h2, h3⟩, hk, hB, hsz⟩ hN
  simp only [List.foldl_cons, List.foldl_nil, List.setIfInBounds_toArray, List.set_cons_succ, List.set_cons_zero]
  have e2 : W.cell? ⟨w.heap.size + 1 + 1 + 1, 2, none⟩ = some sv := by simp [World.cell?, h1]
  have q0 : W.cell? ⟨w.heap.size, 0, none⟩ = some (.pointer (some ⟨p, 0, none⟩)) := by rw [hk.cell ⟨by omega, by omega⟩]; simp [World.cell?, l0]
  have q1 : W.cell? ⟨w.heap.size + 1, 0, none⟩ = some (.func (.func F) #[] caps) := by rw [hk.cell ⟨by omega, by omega⟩]; simp [World.cell?, l1]
  have q2 : W.cell? ⟨p, 0, none⟩ = some (.int .i64 (n : Int)) := by rw [hk.cell ⟨by omega, by omega⟩]; exact (par_cells hp2).1
  have s1 : w.heap.size + 1 < W.heap.size := by omega
  have s3 : w.heap.size + 1 + 1 + 1 < W.heap.size := by omega
  have hnI : (n : Int) ≤ 1000 := by omega
  obtain ⟨q, hq⟩ : ∃ q, q = modAt (modl chain sp lv special) x := ⟨_, rfl⟩
  have hqb := HMB.out x
  rw [← hq] at hqb ⊢
  have HQ := Lib.hid hq
  clear hq
  have hcf := HEF.out
  gi_wp2_with fail
  have hcall : Calls Tryz.prog F (#[.int .i64 (x.val : Int), .int .u64 (q : Int), .slice (some ⟨W.heap.size, 0, none⟩) n n] ++ caps) (W.alloc (.cells (zrow n) 22)) (fun e W' => e = .returned (.tuple #[]) ∧ W'.heap[W.heap.size]? = some (.cells ((rowOf x).map u32V).toArray 22) ∧ (W.alloc (.cells (zrow n) 22)).grownBy W' (some W.heap.size)) := by
   rw [HQ.out]; exact HHF.out x W.heap.size _ (hB.alloc hB.size _) hB.size (alloc_last _ _ rfl)
  refine ⟨trivial, CallsIn.inRound l ((callsIn_wide.2 hcall).mono ?_)⟩
  rintro e W3 ⟨rfl, hrow3, hg3⟩
  have hz3 := hg3.size
  simp only [World.size_alloc] at hz3
  have hold : ∀ b, b < W.heap.size → W3.heap[b]? = W.heap[b]? := fun b hb => by
   rw [hg3.block b (by simp; omega) (by simp; omega), Below.heap_alloc _ _ _ hb]
  have h13 := (hold _ s3).trans h1
  have e23 : W3.cell? ⟨w.heap.size + 1 + 1 + 1, 2, none⟩ = some sv := by simp [World.cell?, h13]
  have hown3 : W3.owns W2.heap.size 23 1 sv vs.length vs := h2.keptBy (fun g c fz _ hh => hold g (lt_of_heap hh))
  have hrows3 := h3.kept (W' := W3) (fun g c _ hh => hold g (lt_of_heap hh))
  have hvl : vs.length ≤ 25 := by have := h3.1; omega
  have hB3 : Below w.heap.size w W3 := (hB.alloc hB.size _).grown hg3 (by simp; have := hB.size; omega) (fun k e => by cases e; have := hB.size; omega)
  have hk3 : KeepP (fun b => b < W2.heap.size ∧ b ≠ w.heap.size + 1 + 1 + 1) W2 W3 := fun b hb => (hold b (by omega)).trans (hk b hb)
  have hkf : KeepsFrom W2.heap.size W W3 := ⟨by omega, fun k o _ hk _ => by rw [hold k (lt_of_heap hk)]; exact hk⟩
  clear hcall hcf hmk e2 q0 q1 q2
  gi_wp2_with (gi_at_builtin; refine wpListIn_append1 W3 rfl (.tmp 34) (.tmp 36) 26 rfl W2.heap.size 23 i0 (.slice none 0 0) 24 Tryz.underlying26 hi0 hz0 hz1 hzb rfl sv vs.length vs rfl hown3 (.slice (some ⟨W.heap.size, 0, none⟩) n n) W3.heap.size rfl rfl rfl (by unfold maxLen; omega) (by omega) (by omega) ?_; intro v4 W4 hown4 hg4a hg4 hz4; obtain ⟨g4, cap4, rfl⟩ := hown4.succ; have h14 : W4.heap[w.heap.size + 1 + 1 + 1]? = some (.cells #[.int .i64 (lv : Int), .bool special, sv] 28) := (hg4.block _ (by omega) (by intro e; have := hown3.lt _ e.symm; omega)).trans h13; have e24 : W4.cell? ⟨w.heap.size + 1 + 1 + 1, 2, none⟩ = some sv := (by simp [World.cell?, h14]); have f24 : W4.frozen? ⟨w.heap.size + 1 + 1 + 1, 2, none⟩ = false := (by simp only [World.frozen?, h14]; rfl))
  have hk4 : ∀ (g : Nat), g < W3.heap.size → (∀ k, sv.ownBlock = some k → g ≠ k) → W4.heap[g]? = W3.heap[g]? := fun g hg hne => hg4.block g hg (fun e => hne g e.symm rfl)
  have hown5 := hown4.setCell (a := ⟨w.heap.size + 1 + 1 + 1, 2, none⟩) (by simp; omega) (.slice (some ⟨g4, 0, none⟩) (vs.length + 1) cap4)
  have hr4 : RowsAre W4 W2.heap.size n rowOf (pre ++ [x]) (vs ++ [.slice (some ⟨W.heap.size, 0, none⟩) n n]) := by
   refine ((hrows3.snoc x W.heap.size hsz hrow3).kept (W' := W4) (fun g c hg hh => hk4 g (lt_of_heap hh) ?_))
   intro k hk e
   subst e
   rcases hown3.2 with ⟨h, _⟩ | ⟨g', cap', cur, fz, h, _, hgg, _⟩
   ·rw [h] at hk; simp [Value.ownBlock] at hk
   ·rw [h] at hk; simp [Value.ownBlock] at hk
    subst hk
    rw [hh] at hgg; cases hgg
  have hr5 := hr4.kept (W' := W4.setCell ⟨w.heap.size + 1 + 1 + 1, 2, none⟩ (.slice (some ⟨g4, 0, none⟩) (vs.length + 1) cap4)) (fun g c hg hh => Below.heap_setCell _ _ _ _ (by simp; omega))
  have hB4 : Below w.heap.size w W4 := hB3.grown hg4 hB3.size (fun k e => by have := hown3.lt _ e; have := hB2.size; omega)
  have hkf4 : KeepsFrom W2.heap.size W W4 := ⟨by omega, fun k o hk1 hk2 ho => by
   rw [hk4 k (by have := lt_of_heap hk2; omega) (fun k' hk' e => by
    subst e
    rcases hown3.2 with ⟨h, _⟩ | ⟨g', cap', cur, fz, h, _, hgg, _⟩
    ·rw [h] at hk'; simp [Value.ownBlock] at hk'
    ·rw [h] at hk'; simp [Value.ownBlock] at hk'
     subst hk'
     rw [hold _ (lt_of_heap hk2), hk2] at hgg
     injection hgg with hgg
     subst hgg
     cases ho), hold k (lt_of_heap hk2)]; exact hk2⟩
  refine ⟨keepsFrom_setCell hkf4 _ _, ?_, ⟨⟨.slice (some ⟨g4, 0, none⟩) (vs.length + 1) cap4, _, ?_, ?_, hr5⟩, ?_, hB4.setCell (by simp; omega) _, by simp; omega⟩⟩
  ·refine KeepP.setCell (fun b hb => (hk4 b (by omega) (fun k hk' e => by have := hown3.lt _ hk'; omega)).trans (hold b (by omega))) (by simp) _
  ·simp [World.setCell, Array.getElem?_modify, h14]
  ·simpa using hown5
  ·refine KeepP.setCell (fun b hb => (hk4 b (by omega) (fun k hk' e => by have := hown3.lt _ hk'; omega)).trans (hk3 b hb)) (by simp) _
end G
/- Walks: elements of integers. -/
namespace G
open Go.RowKit Go.Shelf Go.BigFrame
attribute [local go_sem] Oper.semAt_some
def fillTo (f : Nat → Nat) (n k : Nat) : Array Value := ((List.range n).map fun j => Value.int .u32 ((if j < k then f j else 0 : Nat) : Int)).toArray
theorem fillTo_zero (f : Nat → Nat) (n : Nat) : fillTo f n 0 = zrow n := by
 unfold fillTo zrow
 congr 1
 apply List.ext_getElem
 ·simp
 ·intro i h1 h2; simp
theorem fillTo_succ (f : Nat → Nat) (n k : Nat) : (fillTo f n k).setIfInBounds k (.int .u32 (f k : Int)) = fillTo f n (k + 1) := by
 unfold fillTo
 apply Array.ext
 ·simp
 ·intro i h1 h2
  simp only [List.setIfInBounds_toArray, List.getElem_toArray, List.getElem_set, List.getElem_map, List.getElem_range]
  by_cases h : k = i
  ·subst h; simp
  ·simp only [h, if_false]
   by_cases hik : i < k
   ·rw [if_pos hik, if_pos (by omega)]
   ·rw [if_neg hik, if_neg (by omega)]
theorem fillTo_all (f : Nat → Nat) (n : Nat) : fillTo f n n = ((List.range n).map (fun j => u32V (f j))).toArray := by
 unfold fillTo u32V
 congr 1
 apply List.map_congr_left
 intro j hj
 rw [if_pos (by simpa using hj)]
theorem fill_cell {W : World} {g n k : Nat} {f : Nat → Nat} (h : W.heap[g]? = some (.cells (fillTo f n k) 22)) (hk : k < n) : ∃ u, W.cell? ⟨g, k, none⟩ = some (.int .u32 u) ∧ W.frozen? ⟨g, k, none⟩ = false := by
 refine ⟨0, ?_, by simp [World.frozen?, h]⟩
 simp only [World.cell?, h]
 unfold fillTo
 simp [hk]
theorem fill_set {W : World} {g n k : Nat} {f : Nat → Nat} (h : W.heap[g]? = some (.cells (fillTo f n k) 22)) : (W.setCell ⟨g, k, none⟩ (.int .u32 (f k : Int))).heap[g]? = some (.cells (fillTo f n (k + 1)) 22) := by
 rw [← fillTo_succ]; simp [World.setCell, Array.getElem?_modify, h]
def resN (q : Nat) (x : Int) : Nat := (x % (q : Int)).toNat
theorem resN_int (q : Nat) (x : Int) (hq : 0 < q) : (resN q x : Int) = x % (q : Int) := by
 unfold resN; have := Int.emod_nonneg x (show (q : Int) ≠ 0 by omega); omega
theorem resN_lt (q : Nat) (x : Int) (hq : 0 < q) : resN q x < q := by
 have := resN_int q x hq; have := Int.emod_lt_of_pos x (show (0 : Int) < q by omega); omega
theorem tmod_parts (x : Int) (q : Nat) (hq : 0 < q) : ∃ c : Int, x.tmod (q : Int) = c ∧ -(q : Int) < c ∧ c < (q : Int) ∧ (c < 0 → c + (q : Int) = (resN q x : Int)) ∧ (0 ≤ c → c = (resN q x : Int)) := by
 have h1 := Int.tmod_eq_emod (a := x) (b := (q : Int))
 have h2 := Int.emod_nonneg x (show (q : Int) ≠ 0 by omega)
 have h3 := Int.emod_lt_of_pos x (show (0 : Int) < q by omega)
 have h4 := resN_int q x hq
 refine ⟨_, rfl, ?_, ?_, ?_, ?_⟩ <;> split at h1 <;> omega
theorem grown_set {W W' : World} {g : Nat} (h : W.grownBy W' (some g)) (k : Nat) (u : Value) : W.grownBy (W'.setCell ⟨g, k, none⟩ u) (some g) :=
 ⟨h.os, h.tape, h.output, by simpa using h.size, fun i hi hne => (Below.heap_setCell _ _ _ _ (by rintro rfl; exact hne rfl)).trans (h.block i hi hne)⟩
theorem fromInts1_any (i : Int) (q : Nat) (hq : 0 < q) (hq2 : q < 4294967296) (l : List Int) (lw : Value) (n g c B : Nat) (hn : l.length = n) (W : World) (hr : W.reads B lw (l.map i64V)) (hB : B ≤ g) (hc : W.heap[c]? = some (.cells #[lw] 29)) (_ : c < B)
  (hg : W.heap[g]? = some (.cells (zrow n) 22)) :
  Calls Tryz.prog 33 #[.int .i64 i, .int .u64 (q : Int), .slice (some ⟨g, 0, none⟩) n n, .pointer (some ⟨c, 0, none⟩)] W fun e W' => e = .returned (.tuple #[]) ∧ W'.heap[g]? = some (.cells ((l.map (resN q)).map u32V).toArray 22) ∧ W.grownBy W' (some g) := by
 have hcc : W.cell? ⟨c, 0, none⟩ = some lw := by simp [World.cell?, hc]
 obtain ⟨a, cap, rfl, hcap, hmx, hsh⟩ := reads_i64 hr
 have HS := Lib.hid hsh
 clear hsh hr hc
 have hfl : ((l.map (resN q)).map u32V).toArray = fillTo (fun j => resN q (l.getD j 0)) n n := by
  rw [fillTo_all]; congr 1
  apply List.ext_getElem
  ·simp [hn]
  ·intro j h1 h2
   have hj : j < l.length := by simpa using h1
   simp [List.getD_eq_getElem?_getD, hj]
 rw [hfl]
 clear hfl
 rw [← fillTo_zero (fun j => resN q (l.getD j 0))] at hg
 obtain ⟨m, hm⟩ : ∃ m, m = l.length := ⟨_, rfl⟩
 rw [← hm] at hcc hcap hn
 subst hn
 have HM := Lib.hid hm
 clear hm
 go_enter Tryz.func33, Tryz.ntmps33
 go_wp2
 go_loopw [12] (fun i wr => ∃ k : Nat, k ≤ m ∧ i = .int .i64 (k : Int) ∧ wr.heap[g]? = some (.cells (fillTo (fun j => resN q (l.getD j 0)) m k) 22) ∧ W.grownBy wr (some g)) (fun i _ => m - (intOf i).toNat)
 case atStart => exact ⟨0, Nat.zero_le _, rfl, hg, World.grownBy.refl _ _⟩
 case round =>
  obtain ⟨k, hk, rfl, hgk, hgr⟩ := hrel
  by_cases hlt : k < m
  ·obtain ⟨y, hx⟩ : ∃ x, l[k]? = some x := ⟨l[k]'(by rw [← HM.out]; exact hlt), List.getElem?_eq_getElem _⟩
   obtain ⟨b, off, rfl, hb, hc0⟩ := HS.out k y hx
   have hc : wr.cell? ⟨b, off + k, none⟩ = some (.int .i64 y) := hgr.cell (a := ⟨b, off + k, none⟩) hc0 (by simp; omega)
   have hfk : Hid (resN q (l.getD k 0) = resN q y) := by show _ = _; simp [List.getD_eq_getElem?_getD, hx]
   obtain ⟨u, hcu, hfu⟩ := fill_cell hgk hlt
   obtain ⟨d, hd, hd1, hd2, hd3, hd4⟩ := tmod_parts y q hq
   have HGK := Lib.hid hgk
   have hne : ((q : Int) == 0) = false := by rw [beq_eq_false_iff_ne]; omega
   clear hx hc0 hgk
   by_cases hdn : d < 0
   ·have hd3 := hd3 hdn
    clear hd4
    go_wp2
    go_roundw
    case rel => exact ⟨k + 1, by omega, by go_num, by rw [← hfk.out]; exact fill_set HGK.out, grown_set hgr _ _⟩
    case measure => simp [intOf]; omega
   ·have hd4 := hd4 (by omega)
    clear hd3
    go_wp2
    go_roundw
    case rel => exact ⟨k + 1, by omega, by go_num, by rw [← hfk.out]; exact fill_set HGK.out, grown_set hgr _ _⟩
    case measure => simp [intOf]; omega
  ·obtain rfl : k = m := by omega
   go_wp2
   go_end0
   exact ⟨rfl, hgk, hgr⟩
end G
/- Walks: elements of integers, the function. -/
namespace G
open Go.RowKit Go.Shelf Go.BigFrame
theorem okTo_get {chain : List Nat} {k : Nat} (h : okTo chain k = true) (i q : Nat) (hi : i < k) (hq : chain[i]? = some q) : modB q = true := by
 unfold okTo at h
 rw [List.all_eq_true] at h
 have := h i (by simpa using hi)
 rw [hq] at this
 simp at this
 exact this.1
theorem modB_lt {q : Nat} (h : modB q = true) : 3 ≤ q ∧ q ≤ 2147483647 := by
 unfold modB at h
 simp only [Bool.and_eq_true, decide_eq_true_eq] at h
 exact ⟨h.1.1, h.1.2⟩
theorem modAt_ok {N : Int} {chain : List Nat} {sp lv : Nat} {special : Bool} (hv : validB N chain sp = true) (hp : placeB chain sp (lv : Int) special = true) (x : Fin (modl chain sp lv special).length) : 3 ≤ modAt (modl chain sp lv special) x ∧ modAt (modl chain sp lv special) x ≤ 2147483647 := by
 refine modB_lt ?_
 have hm : modAt (modl chain sp lv special) x ∈ modl chain sp lv special := List.getElem_mem _
 generalize modAt (modl chain sp lv special) x = q at hm
 unfold modl at hm
 unfold validB at hv
 simp only [Bool.and_eq_true] at hv
 rcases List.mem_append.1 hm with hm | hm
 ·have hm := List.mem_of_mem_take hm
  obtain ⟨i, hi, rfl⟩ := List.getElem_of_mem hm
  exact okTo_get hv.2 i _ hi (List.getElem?_eq_getElem hi)
 ·cases special
  ·simp at hm
  ·simp at hm
   subst hm
   have h1 : q ≠ 0 := by
    unfold placeB at hp
    simp at hp
    exact hp.2
   have h2 := hv.1.2.2
   unfold spB at h2
   simp [h1] at h2
   exact h2.1
theorem finRange_map {β : Type} (l : List Nat) (f : Nat → β) : (List.finRange l.length).map (fun x => f (modAt l x)) = l.map f := by
 apply List.ext_getElem
 ·simp
 ·intro i h1 h2; simp [modAt]
def intsB (N : Int) (chain : List Nat) (sp : Nat) (level : Int) (special : Bool) (l : List Int) : Bool := preB N chain sp level special && decide ((l.length : Int) = N)
def intRows (ml : List Nat) (l : List Int) : List (List Nat) := ml.map fun q => l.map (resN q)
theorem sizeB_nat {N : Int} {chain : List Nat} {sp : Nat} (h : validB N chain sp = true) : ∃ n : Nat, N = (n : Int) ∧ 4 ≤ n ∧ n ≤ 32 := by
 unfold validB sizeB at h
 simp only [Bool.and_eq_true, Bool.or_eq_true, beq_iff_eq] at h
 exact ⟨N.toNat, by omega, by omega, by omega⟩
def IntsPost (N : Int) (chain : List Nat) (sp : Nat) (level : Int) (special : Bool) (l : List Int) (w : World) (e : Ending) (w' : World) : Prop :=
 (if intsB N chain sp level special l then ∃ rv, e = .returned (.tuple #[.agg #[.int .i64 level, .bool special, rv], .int .i64 0]) ∧ w'.rows u32V w'.heap.size rv (intRows (modl chain sp level.toNat special) l)
  else e = .returned (.tuple #[.agg #[.int .i64 0, .bool false, .slice none 0 0], .int .i64 2])) ∧ Below w.heap.size w w'
theorem FromInts_any (N pr pw wt er : Int) (cv : Value) (chain : List Nat) (sp : Nat) (level : Int) (special : Bool) (lw : Value) (l : List Int) (w : World) (hr : w.reads w.heap.size cv (chain.map u32V)) (hl : w.reads w.heap.size lw (l.map i64V)) :
  Calls Tryz.prog 13 #[.agg #[.int .i64 N, .int .u32 pr, .int .i64 pw, cv, .int .u32 (sp : Int), .int .i64 wt, .int .u32 er], .int .i64 level, .bool special, lw] w (IntsPost N chain sp level special l w) := by
 obtain ⟨la, lcap, rfl, hlc, hlm, -⟩ := reads_i64 hl
 obtain ⟨W0, hW0⟩ : ∃ W0, W0 = (((w.alloc (.cells #[.int .i64 N, .int .u32 pr, .int .i64 pw, cv, .int .u32 (sp : Int), .int .i64 wt, .int .u32 er] 25)).alloc (.cells #[.slice la l.length lcap] 29)).alloc (.cells #[.int .i64 0, .bool false, .slice none 0 0] 28)) := ⟨_, rfl⟩
 have hB0 : Below w.heap.size w W0 := by rw [hW0]; exact (((Below.refl _ w).alloc (Nat.le_refl _) _).alloc (by simp) _).alloc (by simp; omega) _
 have hp0 : W0.heap[w.heap.size]? = some (.cells #[.int .i64 N, .int .u32 pr, .int .i64 pw, cv, .int .u32 (sp : Int), .int .i64 wt, .int .u32 er] 25) := by
  rw [hW0, Below.heap_alloc _ _ _ (by simp; omega), Below.heap_alloc _ _ _ (by simp)]; exact alloc_last _ _ rfl
 have ha0 : W0.heap[w.heap.size + 1]? = some (.cells #[.slice la l.length lcap] 29) := by
  rw [hW0, Below.heap_alloc _ _ _ (by simp)]; exact alloc_last _ _ (by simp)
 have hc0 : W0.heap[w.heap.size + 1 + 1]? = some (.cells #[.int .i64 0, .bool false, .slice none 0 0] 28) := by
  rw [hW0]; exact alloc_last _ _ (by simp)
 have hr0 := hr.below hB0
 have hl0 := hl.below hB0
 have hz0 := lt_of_heap hc0
 have HV := Lib.hid (fun W h1 h2 => valid_any N pr pw wt er cv chain sp w.heap.size w.heap.size W h1 h2)
 have HP := Lib.hid (fun W h1 h2 => place_any N pr pw wt er cv chain sp level special w.heap.size w.heap.size W h1 h2)
 obtain ⟨r, hrr⟩ : ∃ r, r = intsB N chain sp level special l := ⟨_, rfl⟩
 have hpost : ∀ e w', ((if r then ∃ rv, e = .returned (.tuple #[.agg #[.int .i64 level, .bool special, rv], .int .i64 0]) ∧ w'.rows u32V w'.heap.size rv (intRows (modl chain sp level.toNat special) l)
  else e = .returned (.tuple #[.agg #[.int .i64 0, .bool false, .slice none 0 0], .int .i64 2])) ∧ Below w.heap.size w w') → IntsPost N chain sp level special l w e w' := by
  intro e w' h; unfold IntsPost; rw [← hrr]; exact h
 have HR := Lib.hid hrr
 have HPOST := Lib.hid hpost
 clear hrr hpost
 have HR0 := Lib.hid hr0
 have HL0 := Lib.hid hl0
 have HP0 := Lib.hid hp0
 have HW0 := Lib.hid hW0
 have HA0 := Lib.hid ha0
 have hcell0 : W0.cell? ⟨w.heap.size + 1 + 1, 0, none⟩ = some (.int .i64 0) := by simp [World.cell?, hc0]
 have hcell1 : W0.cell? ⟨w.heap.size + 1 + 1, 1, none⟩ = some (.bool false) := by simp [World.cell?, hc0]
 have hcell2 : W0.cell? ⟨w.heap.size + 1 + 1, 2, none⟩ = some (.slice none 0 0) := by simp [World.cell?, hc0]
 have hfz0 : W0.frozen? ⟨w.heap.size + 1 + 1, 0, none⟩ = false := by simp [World.frozen?, hc0]
 have hfz1 : W0.frozen? ⟨w.heap.size + 1 + 1, 1, none⟩ = false := by simp [World.frozen?, hc0]
 have hfz2 : W0.frozen? ⟨w.heap.size + 1 + 1, 2, none⟩ = false := by simp [World.frozen?, hc0]
 clear hr hl hr0 hl0 hW0
 go_enter Tryz.func13, Tryz.ntmps13
 go_wp2_with fail
 rw [← HW0.out]
 cases hv : validB N chain sp
 ·obtain rfl : r = false := by rw [HR.out, intsB, preB, hv]; rfl
  rw [hv] at HV
  refine (HV.out _ HR0.out HP0.out).mono ?_
  rintro e w1 ⟨rfl, n1, rfl⟩
  clear HV HP hv hp0 ha0
  go_wp2
  refine bodyPost_ret (v := .tuple #[.agg #[.int .i64 0, .bool false, .slice none 0 0], .int .i64 2]) ?_ rfl (HPOST.out _ _ ⟨rfl, ?_⟩)
  ·simp [results, Tryz.results13, go_sem, hcell0, hcell1, hcell2]
  ·exact below_drewN (((hB0.setCell (by simp; omega) _).setCell (by simp; omega) _).setCell (by simp; omega) _) _
 ·rw [hv] at HV
  refine (HV.out _ HR0.out HP0.out).mono ?_
  rintro e w1 ⟨rfl, n1, rfl⟩
  clear HV
  go_wp2_with fail
  cases hpl : placeB chain sp level special
  ·obtain rfl : r = false := by rw [HR.out, intsB, preB, hpl]; simp
   rw [hpl] at HP
   refine (HP.out _ (HR0.out.drewN _) HP0.out).mono ?_
   rintro e w1 ⟨rfl, rfl⟩
   clear HP hv hpl hp0 ha0
   go_wp2
   refine bodyPost_ret (v := .tuple #[.agg #[.int .i64 0, .bool false, .slice none 0 0], .int .i64 2]) ?_ rfl (HPOST.out _ _ ⟨rfl, ?_⟩)
   ·simp [results, Tryz.results13, go_sem, hcell0, hcell1, hcell2]
   ·exact below_drewN (((hB0.setCell (by simp; omega) _).setCell (by simp; omega) _).setCell (by simp; omega) _) _
  ·obtain ⟨lv, rfl, hl1, hl2⟩ := levB_nat hpl
   obtain ⟨n, rfl, hn1, hn2⟩ := sizeB_nat hv
   have hl24 := (validB_len hv).2
   have hmb : ∀ x, 3 ≤ modAt (modl chain sp lv special) x ∧ modAt (modl chain sp lv special) x ≤ 2147483647 := modAt_ok hv hpl
   have hck : intsB (n : Int) chain sp (lv : Int) special l = decide (l.length = n) := by
    rw [intsB, preB, hv, hpl]; simp; omega
   rw [hck] at HR
   rw [hpl] at HP
   refine (HP.out _ (HR0.out.drewN _) HP0.out).mono ?_
   rintro e w1 ⟨rfl, rfl⟩
   have HMB := Lib.hid hmb
   clear HP hv hpl hck hmb
   have a0 : W0.cell? ⟨w.heap.size + 1, 0, none⟩ = some (.slice la l.length lcap) := by simp [World.cell?, ha0]
   have p0 : W0.cell? ⟨w.heap.size, 0, none⟩ = some (.int .i64 (n : Int)) := (par_cells hp0).1
   clear hp0 ha0
   by_cases hln : l.length = n
   ·obtain rfl : r = true := by rw [HR.out]; simp [hln]
    subst hln
    have hq : ((l.length : Int) != (l.length : Int)) = false := by simp
    have hF : Fills 33 #[.pointer (some ⟨w.heap.size + 1, 0, none⟩)] l.length (fun x => #[.int .i64 (x.val : Int), .int .u64 (modAt (modl chain sp lv special) x : Int)]) (fun x => l.map (resN (modAt (modl chain sp lv special) x))) (W0.drewN n1) := by
     intro x g W hB hg hz
     have hm := HMB.out x
     have hlW : W.reads (W0.drewN n1).heap.size (.slice la l.length lcap) (l.map i64V) := ((HL0.out.drewN n1).mono (by simpa using hB0.size)).below hB
     have hcW : W.heap[w.heap.size + 1]? = some (.cells #[.slice la l.length lcap] 29) := (hB.block (w.heap.size + 1) (by simp; omega)).trans HA0.out
     exact fromInts1_any (x.val : Int) (modAt (modl chain sp lv special) x) (by omega) (by omega) l _ l.length g (w.heap.size + 1) _ rfl W hlW hg hcW (by simp; omega) hz
    have HE := Lib.hid (fun W (hW : W = W0.drewN n1) => each_any l.length (by omega) pr pw wt er cv chain sp lv special w.heap.size W hl2 hl24 hl1 (fun x => by have := HMB.out x; omega) (by rw [hW]; exact (HR0.out.drewN n1).mono (by simpa using hB0.size)) (by rw [hW]; exact HP0.out) 33 #[.pointer (some ⟨w.heap.size + 1, 0, none⟩)] (fun x => l.map (resN (modAt (modl chain sp lv special) x))) (by simp) (by rw [hW]; exact hF) (enters_of Tryz.func33 (by kernel_rfl) rfl))
    clear hF
    go_wp2_with fail
    refine (HE.out _ rfl).mono ?_
    rintro e w3 ⟨⟨rv, rfl, hrows⟩, hb3⟩
    have hHR := Lib.hid hrows
    have hc3 := (hb3.block (w.heap.size + 1 + 1) (by simp; omega)).trans hc0
    obtain ⟨ra, rcap, rfl, -⟩ := hrows.now.shape
    have k0 : w3.cell? ⟨w.heap.size + 1 + 1, 0, none⟩ = some (.int .i64 0) := by simp [World.cell?, hc3]
    have k1 : w3.cell? ⟨w.heap.size + 1 + 1, 1, none⟩ = some (.bool false) := by simp [World.cell?, hc3]
    have k2 : w3.cell? ⟨w.heap.size + 1 + 1, 2, none⟩ = some (.slice none 0 0) := by simp [World.cell?, hc3]
    have z0 : w3.frozen? ⟨w.heap.size + 1 + 1, 0, none⟩ = false := by simp [World.frozen?, hc3]
    have z1 : w3.frozen? ⟨w.heap.size + 1 + 1, 1, none⟩ = false := by simp [World.frozen?, hc3]
    have z2 : w3.frozen? ⟨w.heap.size + 1 + 1, 2, none⟩ = false := by simp [World.frozen?, hc3]
    have hb3' : Below w.heap.size w w3 := (below_drewN hB0 n1).trans (hb3.mono (by simpa using hB0.size))
    have hz3 := lt_of_heap hc3
    clear hrows hb3
    go_wp2
    have HW6 : ∀ W6, W6 = ((w3.setCell ⟨w.heap.size + 1 + 1, 0, none⟩ (.int .i64 (lv : Int))).setCell ⟨w.heap.size + 1 + 1, 1, none⟩ (.bool special)).setCell ⟨w.heap.size + 1 + 1, 2, none⟩ (.slice ra (List.map (fun x => l.map (resN (modAt (modl chain sp lv special) x))) (List.finRange (modl chain sp lv special).length)).length rcap) → W6.heap[w.heap.size + 1 + 1]? = some (.cells #[.int .i64 (lv : Int), .bool special, .slice ra (List.map (fun x => l.map (resN (modAt (modl chain sp lv special) x))) (List.finRange (modl chain sp lv special).length)).length rcap] 28) := by
     rintro W6 rfl; simp [World.setCell, Array.getElem?_modify, hc3]
    obtain ⟨W6, hW6⟩ : ∃ W6, W6 = ((w3.setCell ⟨w.heap.size + 1 + 1, 0, none⟩ (.int .i64 (lv : Int))).setCell ⟨w.heap.size + 1 + 1, 1, none⟩ (.bool special)).setCell ⟨w.heap.size + 1 + 1, 2, none⟩ (.slice ra (List.map (fun x => l.map (resN (modAt (modl chain sp lv special) x))) (List.finRange (modl chain sp lv special).length)).length rcap) := ⟨_, rfl⟩
    have hc6 := HW6 W6 hW6
    have hs6 : ∀ g, (W0.drewN n1).heap.size ≤ g → W6.heap[g]? = w3.heap[g]? := by
     intro g hg
     rw [hW6]
     iterate 3 rw [Below.heap_setCell _ _ _ _ (by simp at hg ⊢; omega)]
    have hB6 : Below w.heap.size w W6 := by
     rw [hW6]; exact (((hb3'.setCell (by simp; omega) _).setCell (by simp; omega) _).setCell (by simp; omega) _)
    have hrw6 := hHR.out.1 W6 hs6
    have hmapE : (List.finRange (modl chain sp lv special).length).map (fun x => l.map (resN (modAt (modl chain sp lv special) x))) = intRows (modl chain sp lv special) l := finRange_map _ (fun q => l.map (resN q))
    rw [hmapE] at hrw6 hc6
    rw [List.length_map, List.length_finRange] at hW6
    rw [← hW6]
    have j0 : W6.cell? ⟨w.heap.size + 1 + 1, 0, none⟩ = some (.int .i64 (lv : Int)) := by simp [World.cell?, hc6]
    have j1 : W6.cell? ⟨w.heap.size + 1 + 1, 1, none⟩ = some (.bool special) := by simp [World.cell?, hc6]
    have j2 : W6.cell? ⟨w.heap.size + 1 + 1, 2, none⟩ = some (.slice ra (intRows (modl chain sp lv special) l).length rcap) := by simp [World.cell?, hc6]
    refine bodyPost_ret (v := .tuple #[.agg #[.int .i64 (lv : Int), .bool special, .slice ra (intRows (modl chain sp lv special) l).length rcap], .int .i64 0]) ?_ rfl (HPOST.out _ _ ⟨?_, hB6⟩)
    ·simp [results, Tryz.results13, go_sem, j0, j1, j2]
    ·rw [if_pos trivial]
     exact ⟨_, rfl, by simpa using hrw6⟩
   ·obtain rfl : r = false := by rw [HR.out]; simp [hln]
    have hq : ((l.length : Int) != (n : Int)) = true := by rw [bne_iff_ne]; omega
    clear hln
    go_wp2
    refine bodyPost_ret (v := .tuple #[.agg #[.int .i64 0, .bool false, .slice none 0 0], .int .i64 2]) ?_ rfl (HPOST.out _ _ ⟨rfl, ?_⟩)
    ·simp [results, Tryz.results13, go_sem, hcell0, hcell1, hcell2]
    ·exact below_drewN (((hB0.setCell (by simp; omega) _).setCell (by simp; omega) _).setCell (by simp; omega) _) _
end G
/- Walks: the reference's parameters that are valid. -/
namespace G
open Go.RowKit Go.Shelf Go.BigFrame
def allL (chain : List Nat) (sp : Nat) : List Nat := if sp = 0 then chain else chain ++ [sp]
theorem okTo_app (chain : List Nat) (x k : Nat) (hk : k ≤ chain.length) : okTo (chain ++ [x]) k = okTo chain k := by
 unfold okTo
 rw [Bool.eq_iff_iff, List.all_eq_true, List.all_eq_true]
 constructor <;> intro h i hi <;> have h1 := h i hi <;> rw [List.mem_range] at hi
 ·rw [List.getElem?_append_left (by omega), List.take_append_of_le_length (by omega)] at h1; exact h1
 ·rw [List.getElem?_append_left (by omega), List.take_append_of_le_length (by omega)]; exact h1
theorem okTo_all (chain : List Nat) (sp : Nat) : okTo (allL chain sp) (allL chain sp).length = (okTo chain chain.length && spB chain sp) := by
 unfold allL spB
 by_cases h : sp = 0
 ·rw [if_pos h]; simp [h]
 ·rw [if_neg h, List.length_append, List.length_singleton, okTo_succ _ _ sp (by simp), okTo_app _ _ _ (Nat.le_refl _)]
  have : (sp == 0) = false := by simpa using h
  rw [this, List.take_left]
  simp
theorem validB_all (N : Int) (chain : List Nat) (sp : Nat) : validB N chain sp = (sizeB N && (decide (1 ≤ chain.length) && decide (chain.length ≤ 24)) && okTo (allL chain sp) (allL chain sp).length) := by
 rw [okTo_all]
 unfold validB
 cases sizeB N <;> cases decide (1 ≤ chain.length) <;> cases decide (chain.length ≤ 24) <;> cases spB chain sp <;> cases okTo chain chain.length <;> rfl
theorem hasB_succ (l : List Nat) (k y q : Nat) (h : l[k]? = some y) : hasB (l.take (k + 1)) q = (hasB (l.take k) q || decide (y = q)) := by
 unfold hasB
 rw [List.take_add_one, h]
 rw [Bool.eq_iff_iff]
 simp
 constructor
 ·rintro (h | h)
  ·exact .inl h
  ·exact .inr h.symm
 ·rintro (h | h)
  ·exact .inl h
  ·exact .inr h.symm
theorem hasB_take {l : List Nat} {k i y : Nat} (h : l[k]? = some y) (hk : k < i) : hasB (l.take i) y = true := by
 unfold hasB
 rw [List.contains_iff_mem]
 exact List.mem_of_getElem? (i := k) (by rw [List.getElem?_take, if_pos hk]; exact h)
theorem okTo_no {l : List Nat} {i q m : Nat} (h : l[i]? = some q) (hb : (modB q && !hasB (l.take i) q) = false) (hi : i < m) : okTo l m = false :=
 okTo_mono _ (i + 1) _ (by rw [okTo_succ _ _ _ h, hb]; simp) hi
theorem one_u32 (l : List Nat) : ∀ u ∈ l.map u32V, u.oneCell' = true := by
 intro u hu
 rw [List.mem_map] at hu
 obtain ⟨x, _, rfl⟩ := hu
 rfl
theorem info32 : (Tryz.prog.info? 22).map (fun i => (i.zero, i.size, i.bytes)) = some (some (.int .u32 0), 1, 4) := by kernel_rfl
def OkPost (b : Bool) (w : World) (e : Ending) (w' : World) : Prop := e = .returned (.bool b) ∧ Below w.heap.size w w'
theorem size_test (N : Int) (h : sizeB N = false) : (N != 4) = true ∧ (N != 8) = true ∧ (N != 16) = true ∧ (N != 32) = true := by
 unfold sizeB at h
 simp only [Bool.or_eq_false_iff, beq_eq_false_iff_ne, ne_eq] at h
 simp only [bne_iff_ne, ne_eq]
 exact ⟨h.1.1.1, h.1.1.2, h.1.2, h.2⟩
theorem valid09_any (N pr pw wt er : Int) (cv : Value) (chain : List Nat) (sp : Nat) (w : World) (hr : w.reads w.heap.size cv (chain.map u32V)) :
  Calls Tryz.prog 51 #[.agg #[.int .i64 N, .int .u32 pr, .int .i64 pw, cv, .int .u32 (sp : Int), .int .i64 wt, .int .u32 er]] w (OkPost (validB N chain sp) w) := by
 obtain ⟨r, hrr⟩ : ∃ r, r = validB N chain sp := ⟨_, rfl⟩
 rw [← hrr]
 rw [validB_all] at hrr
 have hpost : ∀ e w', e = .returned (.bool r) ∧ Below w.heap.size w w' → OkPost r w e w' := fun _ _ h => h
 have HPOST := Lib.hid hpost
 have HR := Lib.hid hrr
 clear hpost hrr
 obtain ⟨a, cap, rfl, hcap, hmx, -⟩ := reads_u32 hr
 have hl := hr.le_map
 obtain ⟨W0, hW0⟩ : ∃ W0, W0 = w.alloc (.cells #[.int .i64 N, .int .u32 pr, .int .i64 pw, .slice a chain.length cap, .int .u32 (sp : Int), .int .i64 wt, .int .u32 er] 25) := ⟨_, rfl⟩
 have hB0 : Below w.heap.size w W0 := by rw [hW0]; exact (Below.refl _ w).alloc (Nat.le_refl _) _
 have g0 : W0.heap[w.heap.size]? = some (.cells #[.int .i64 N, .int .u32 pr, .int .i64 pw, .slice a chain.length cap, .int .u32 (sp : Int), .int .i64 wt, .int .u32 er] 25) := by rw [hW0]; exact alloc_last _ _ rfl
 have hz0 := lt_of_heap g0
 have hr0 := hr.below hB0
 obtain ⟨m, hm⟩ : ∃ m, m = chain.length := ⟨_, rfl⟩
 rw [← hm] at hl hcap g0 hr0 hW0 HR ⊢
 obtain ⟨c0, c1, c2, c3, c4, c5, c6⟩ := par_cells g0
 have HG0 := Lib.hid g0
 have HR0 := Lib.hid hr0
 have HW0 := Lib.hid hW0
 have HM := Lib.hid hm
 clear hr g0 hr0 hW0 hm
 cases hsz : sizeB N
 case false =>
  obtain rfl : r = false := by rw [HR.out, hsz]; rfl
  obtain ⟨t1, t2, t3, t4⟩ := size_test N hsz
  clear hsz
  go_enter Tryz.func51, Tryz.ntmps51
  go_upto_region 1 with (fail)
  rw [← HW0.out]
  go_wp2
  go_ret
  exact HPOST.out _ _ ⟨rfl, hB0⟩
 have hN : N = 4 ∨ N = 8 ∨ N = 16 ∨ N = 32 := by
  unfold sizeB at hsz
  simp only [Bool.or_eq_true, beq_iff_eq] at hsz
  omega
 have HSZ := Lib.hid hsz
 clear hsz
 go_enter Tryz.func51, Tryz.ntmps51
 go_upto_region 1 with (fail)
 rw [← HW0.out]
 go_cut [23] (fun s wx => s = .bool false ∧ wx = W0)
 case first =>
  rcases hN with rfl | rfl | rfl | rfl
  all_goals
   go_wp2
   go_meet
   case rel => exact ⟨rfl, rfl⟩
 case rest =>
  obtain ⟨rfl, rfl⟩ := hcut
  by_cases hm1 : 1 ≤ m
  case neg =>
   obtain rfl : r = false := by rw [HR.out]; simp; omega
   have hd1 : decide ((m : Int) < 1) = true := by simp; omega
   go_wp2
   go_ret
   exact HPOST.out _ _ ⟨rfl, hB0⟩
  by_cases hm2 : m ≤ 24
  case neg =>
   obtain rfl : r = false := by rw [HR.out]; simp; omega
   go_wp2
   go_ret
   exact HPOST.out _ _ ⟨rfl, hB0⟩
  have hr1 : r = okTo (allL chain sp) (allL chain sp).length := by rw [HR.out, HSZ.out]; simp [hm1, hm2]
  have HR1 := Lib.hid hr1
  clear hr1 hN HR HSZ
  obtain ⟨i0, hi, hiz, hiz1, hizb⟩ := info_parts info32
  have hown0 := World.owns_nil wc wc.heap.size 22 1
  have q1 : 0 + (chain.map u32V).length ≤ maxLen := by rw [List.length_map, ← HM.out]; unfold maxLen; omega
  have q2 : (0 + (chain.map u32V).length) * 4 ≤ 140737488355328 := by rw [List.length_map, ← HM.out]; omega
  have HQ1 := Lib.hid q1
  have HQ2 := Lib.hid q2
  clear q1 q2
  go_upto_region 7 with (at_builtin; refine wpList_append_reads wc rfl (.tmp 34) (.tmp 36) 23 rfl wc.heap.size 22 i0 (.int .u32 0) 4 Tryz.underlying23 hi hiz hiz1 hizb rfl (.slice none 0 0) 0 [] rfl hown0 w.heap.size (.slice a m cap) (chain.map u32V) rfl HR0.out (one_u32 chain) HQ1.out HQ2.out (Nat.le_refl _) ?_; intro v1 w1 hown1 hg1)
  have hb1 : Below wc.heap.size wc w1 := (Below.refl _ _).grown hg1 (Nat.le_refl _) (fun k hk => by simp [Value.ownBlock] at hk)
  have hB1 := hB0.trans (hb1.mono hB0.size)
  have hg := (hb1.block _ hz0).trans HG0.out
  have hs1 := hb1.size
  rw [List.nil_append, Nat.zero_add, List.length_map, ← HM.out] at hown1
  obtain ⟨gb, gc, rfl⟩ := hown1.pos (by omega)
  have HG1 := Lib.hid hg
  clear c0 c1 c2 c3 c4 c5 c6 hg1 hown0
  obtain ⟨c0, c1, c2, c3, c4, c5, c6⟩ := par_cells hg
  have HO1 := Lib.hid hown1
  clear hg hown1
  go_upto_if 40 with (fail)
  go_cut [3] (fun v W => W.reads W.heap.size v ((allL chain sp).map u32V) ∧ Below w.heap.size w W)
  case first =>
   by_cases hsp : sp = 0
   ·have t1 : ((sp : Int) != 0) = false := by rw [hsp]; rfl
    go_wp2
    go_meet
    case rel =>
     refine ⟨?_, hB1⟩
     unfold allL; rw [if_pos hsp]
     exact HO1.out.reads
   ·have t1 : ((sp : Int) != 0) = true := by rw [bne_iff_ne]; omega
    have hin := Lib.hid hsp
    clear hsp
    go_wp2_with (at_builtin; refine wpList_append1 w1 rfl (.tmp 41) (.tmp 44) 23 rfl wc.heap.size 22 i0 (.int .u32 0) 4 Tryz.underlying23 hi hiz hiz1 hizb rfl (.slice (some ⟨gb, 0, none⟩) m gc) m (chain.map u32V) rfl HO1.out (.int .u32 (sp : Int)) w1.heap.size rfl rfl rfl (by unfold maxLen; omega) (by omega) hs1 ?_; intro v2 w2 hown2 hg2 hg3 hz2)
    obtain ⟨gb2, gc2, rfl⟩ := hown2.pos (by omega)
    have HO2 := Lib.hid hown2
    have HG2 := Lib.hid hg3
    clear hown2 hg2 hg3
    go_wp2
    go_meet
    case rel =>
     refine ⟨?_, hB1.grown HG2.out hB1.size (fun k hk => by have := (HO1.out.lt k hk).1; have := hB0.size; omega)⟩
     have h2 := HO2.out.reads
     have he : chain.map u32V ++ [Value.int .u32 (sp : Int)] = (allL chain sp).map u32V := by unfold allL; rw [if_neg hin.out]; simp [u32V]
     rw [he] at h2
     exact h2
  case rest =>
   clear HO1 HG1 hs1 hb1 hB1 HW0 HR0 HG0 hmx hcap HQ1 HQ2 c0 c1 c2 c3 c4 c5 c6 hz0 hB0 HM hl
   obtain ⟨hrv, hBw⟩ := hcut
   obtain ⟨w2, hw2⟩ : ∃ w2, w2 = wc := ⟨_, rfl⟩
   subst hw2
   have hl2 := hrv.le_map
   obtain ⟨xa, xc, rfl, hxc, hxm, hxs⟩ := reads_u32 hrv
   obtain ⟨L, hL⟩ : ∃ L, L = allL chain sp := ⟨_, rfl⟩
   rw [← hL] at hrv hl2 hxc hxs HR1 ⊢
   obtain ⟨M, hM⟩ : ∃ M, M = L.length := ⟨_, rfl⟩
   rw [← hM] at hl2 hxc HR1 ⊢
   have HXS := Lib.hid hxs
   have HM2 := Lib.hid hM
   clear hrv hxs hM hL
   go_wp2_with fail
   go_loopw [4] (fun i wx => ∃ k n : Nat, k ≤ M ∧ i = .int .i64 (k : Int) ∧ wx = w2.drewN n ∧ Hid (okTo L k = true)) (fun i _ => M - (intOf i).toNat)
   case atStart => exact ⟨0, 0, Nat.zero_le _, rfl, rfl, rfl⟩
   case round =>
    obtain ⟨i, n0, hi', rfl, rfl, hok⟩ := hrel
    by_cases hlt : i < M
    ·obtain ⟨q, hq⟩ : ∃ x, L[i]? = some x := ⟨L[i]'(by rw [← HM2.out]; exact hlt), List.getElem?_eq_getElem _⟩
     obtain ⟨b, off, rfl, _, hc⟩ := HXS.out i q hq
     have HQ := Lib.hid hq
     clear hq
     have i1 : (0 : Int) ≤ (i : Int) := by omega
     have i2 : (i : Int) < (M : Int) := by omega
     by_cases hmq : modB q = true
     case neg =>
      obtain rfl : r = false := by rw [HR1.out]; exact okTo_no HQ.out (by simp [hmq]) hlt
      have hmq2 : q < 3 ∨ 2147483647 < q ∨ q % 2 = 0 := by
       unfold modB at hmq
       simp only [Bool.and_eq_true, decide_eq_true_eq] at hmq
       omega
      clear hmq
      by_cases h3 : q < 3
      ·clear hmq2
       go_wp2
       go_ret
       exact HPOST.out _ _ ⟨rfl, below_drewN hBw n0⟩
      ·by_cases h4 : 2147483647 < q
       ·clear hmq2
        go_wp2
        go_ret
        exact HPOST.out _ _ ⟨rfl, below_drewN hBw n0⟩
       ·have h5 : ((q : Int) % 2 == 0) = true := by rw [beq_iff_eq]; omega
        clear hmq2
        go_wp2
        go_ret
        exact HPOST.out _ _ ⟨rfl, below_drewN hBw n0⟩
     case pos =>
      have hmq2 : 3 ≤ q ∧ q ≤ 2147483647 ∧ q % 2 = 1 := by
       have := hmq
       unfold modB at this
       simp only [Bool.and_eq_true, decide_eq_true_eq] at this
       omega
      obtain ⟨m1, m2, m3⟩ := hmq2
      have h5 : ((q : Int) % 2 == 0) = false := by rw [beq_eq_false_iff_ne]; omega
      have HMQ := Lib.hid hmq
      clear m3 hmq
      go_wp2_with fail
      go_loopw [5] (fun kk wx => ∃ k n : Nat, k ≤ i ∧ kk = .int .i64 (k : Int) ∧ wx = w2.drewN n ∧ Hid (hasB (L.take k) q = false)) (fun kk _ => i - (intOf kk).toNat)
      case atStart => exact ⟨0, _, Nat.zero_le _, rfl, rfl, rfl⟩
      case round =>
       obtain ⟨k, n1, hk, rfl, rfl, hno⟩ := hrel
       by_cases hltk : k < i
       ·obtain ⟨y, hy⟩ : ∃ x, L[k]? = some x := ⟨L[k]'(by rw [← HM2.out]; omega), List.getElem?_eq_getElem _⟩
        obtain ⟨b2, off2, hb2, _, hc2⟩ := HXS.out k y hy
        injection hb2 with hb2
        injection hb2 with hb2a hb2b
        subst hb2a hb2b
        have HY := Lib.hid hy
        clear hy
        have j1 : (0 : Int) ≤ (k : Int) := by omega
        have j2 : (k : Int) < (M : Int) := by omega
        by_cases hyq : y = q
        ·subst hyq
         obtain rfl : r = false := by rw [HR1.out]; exact okTo_no HQ.out (by rw [hasB_take HY.out hltk]; simp) hlt
         have t5 : ((y : Int) == (y : Int)) = true := by simp
         go_upto_region 17 with (fail)
         go_quiet (fail)
         go_wp2
         go_ret
         exact HPOST.out _ _ ⟨rfl, below_drewN hBw _⟩
        ·have t5 : ((y : Int) == (q : Int)) = false := by rw [beq_eq_false_iff_ne]; omega
         have HYQ := Lib.hid hyq
         clear hyq
         go_upto_region 17 with (fail)
         go_quiet (fail)
         go_wp2
         go_roundw
         case rel => exact ⟨k + 1, _, by omega, by go_num, rfl, by show _ = _; rw [hasB_succ _ _ _ _ HY.out, hno.out]; simp [HYQ.out]⟩
         case measure => simp [intOf]; omega
       ·obtain rfl : k = i := by omega
        have hok2 : Hid (okTo L (k + 1) = true) := by
         show _ = _
         rw [okTo_succ _ _ _ HQ.out, hok.out, HMQ.out, hno.out]; rfl
        clear hno hok
        go_wp2
        go_roundw
        case rel => exact ⟨k + 1, _, by omega, by go_num, rfl, hok2⟩
        case measure => simp [intOf]; omega
    ·obtain rfl : i = M := by omega
     obtain rfl : r = true := by rw [HR1.out, hok.out]
     clear hok
     go_wp2
     go_ret
     exact HPOST.out _ _ ⟨rfl, below_drewN hBw n0⟩
end G
/- Walks: the reference's places, moduli, and its check of an element. -/
namespace G
open Go.RowKit Go.Shelf Go.BigFrame
theorem rplace_any (N pr pw wt er : Int) (cv : Value) (chain : List Nat) (sp : Nat) (level : Int) (special : Bool) (w : World) (hr : w.reads w.heap.size cv (chain.map u32V)) :
  Calls Tryz.prog 52 #[.agg #[.int .i64 N, .int .u32 pr, .int .i64 pw, cv, .int .u32 (sp : Int), .int .i64 wt, .int .u32 er], .int .i64 level, .bool special] w (OkPost (placeB chain sp level special) w) := by
 obtain ⟨r, hrr⟩ : ∃ r, r = placeB chain sp level special := ⟨_, rfl⟩
 rw [← hrr]
 have hpost : ∀ e w', e = .returned (.bool r) ∧ Below w.heap.size w w' → OkPost r w e w' := fun _ _ h => h
 have HPOST := Lib.hid hpost
 unfold placeB levB at hrr
 obtain ⟨a, cap, rfl, hcap, hmx, -⟩ := reads_u32 hr
 have hl := hr.le_map
 obtain ⟨W0, hW0⟩ : ∃ W0, W0 = w.alloc (.cells #[.int .i64 N, .int .u32 pr, .int .i64 pw, .slice a chain.length cap, .int .u32 (sp : Int), .int .i64 wt, .int .u32 er] 25) := ⟨_, rfl⟩
 have hB0 : Below w.heap.size w W0 := by rw [hW0]; exact (Below.refl _ w).alloc (Nat.le_refl _) _
 have g0 : W0.heap[w.heap.size]? = some (.cells #[.int .i64 N, .int .u32 pr, .int .i64 pw, .slice a chain.length cap, .int .u32 (sp : Int), .int .i64 wt, .int .u32 er] 25) := by rw [hW0]; exact alloc_last _ _ rfl
 obtain ⟨m, hm⟩ : ∃ m, m = chain.length := ⟨_, rfl⟩
 rw [← hm] at hl hcap g0 hW0 hrr ⊢
 obtain ⟨c0, c1, c2, c3, c4, c5, c6⟩ := par_cells g0
 have HR := Lib.hid hrr
 have HW0 := Lib.hid hW0
 clear hr g0 hW0 hm hrr hpost
 by_cases k1 : 1 ≤ level
 case neg =>
  obtain rfl : r = false := by rw [HR.out]; simp [k1]
  have k2 : level < 1 := by omega
  clear k1
  go_enter Tryz.func52, Tryz.ntmps52
  go_upto_region 1 with (fail)
  rw [← HW0.out]
  go_wp2
  go_ret
  exact HPOST.out _ _ ⟨rfl, hB0⟩
 by_cases k2 : level ≤ (m : Int)
 case neg =>
  obtain rfl : r = false := by rw [HR.out]; simp [k2]
  have k3 : (m : Int) < level := by omega
  clear k2
  go_enter Tryz.func52, Tryz.ntmps52
  go_upto_region 1 with (fail)
  rw [← HW0.out]
  go_wp2
  go_ret
  exact HPOST.out _ _ ⟨rfl, hB0⟩
 have HR2 : Hid (r = (!special || sp != 0)) := by show _ = _; rw [HR.out]; simp [k1, k2]
 clear HR
 cases special
 ·obtain rfl : r = true := HR2.out
  go_enter Tryz.func52, Tryz.ntmps52
  go_upto_region 1 with (fail)
  rw [← HW0.out]
  go_wp2
  go_ret
  exact HPOST.out _ _ ⟨rfl, hB0⟩
 ·by_cases hsp : sp = 0
  ·have t1 : ((sp : Int) != 0) = false := by rw [hsp]; rfl
   obtain rfl : r = false := by rw [HR2.out, hsp]; rfl
   clear hsp
   go_enter Tryz.func52, Tryz.ntmps52
   go_upto_region 1 with (fail)
   rw [← HW0.out]
   go_wp2
   go_ret
   exact HPOST.out _ _ ⟨rfl, hB0⟩
  ·have t1 : ((sp : Int) != 0) = true := by rw [bne_iff_ne]; omega
   obtain rfl : r = true := by rw [HR2.out]; simp [hsp]
   clear hsp
   go_enter Tryz.func52, Tryz.ntmps52
   go_upto_region 1 with (fail)
   rw [← HW0.out]
   go_wp2
   go_ret
   exact HPOST.out _ _ ⟨rfl, hB0⟩
def ModPost (l : List Nat) (w : World) (e : Ending) (w' : World) : Prop := (∃ v, e = .returned v ∧ w'.reads w'.heap.size v (l.map u32V)) ∧ Below w.heap.size w w'
theorem rmoduli_any (N pr pw wt er : Int) (cv : Value) (chain : List Nat) (sp lv : Nat) (special : Bool) (w : World) (hr : w.reads w.heap.size cv (chain.map u32V)) (hlv1 : 1 ≤ lv) (hlv2 : lv ≤ chain.length) (h24 : chain.length ≤ 24) :
  Calls Tryz.prog 24 #[.agg #[.int .i64 N, .int .u32 pr, .int .i64 pw, cv, .int .u32 (sp : Int), .int .i64 wt, .int .u32 er], .int .i64 (lv : Int), .bool special] w (ModPost (modl chain sp lv special) w) := by
 obtain ⟨ml, hmlE⟩ : ∃ ml, ml = modl chain sp lv special := ⟨_, rfl⟩
 rw [← hmlE]
 have hpost : ∀ e w', ((∃ v, e = .returned v ∧ w'.reads w'.heap.size v (ml.map u32V)) ∧ Below w.heap.size w w') → ModPost ml w e w' := fun _ _ h => h
 have HPOST := Lib.hid hpost
 obtain ⟨a, cap, rfl, hcap, hmx, -⟩ := reads_u32 hr
 obtain ⟨W0, hW0⟩ : ∃ W0, W0 = w.alloc (.cells #[.int .i64 N, .int .u32 pr, .int .i64 pw, .slice a chain.length cap, .int .u32 (sp : Int), .int .i64 wt, .int .u32 er] 25) := ⟨_, rfl⟩
 have hB0 : Below w.heap.size w W0 := by rw [hW0]; exact (Below.refl _ w).alloc (Nat.le_refl _) _
 have g0 : W0.heap[w.heap.size]? = some (.cells #[.int .i64 N, .int .u32 pr, .int .i64 pw, .slice a chain.length cap, .int .u32 (sp : Int), .int .i64 wt, .int .u32 er] 25) := by rw [hW0]; exact alloc_last _ _ rfl
 have hz0 := lt_of_heap g0
 have hr0 := ((hr.take lv hlv2).below hB0)
 rw [← List.map_take] at hr0
 obtain ⟨L, hL⟩ : ∃ L, L = chain.take lv := ⟨_, rfl⟩
 have hLl : L.length = lv := by rw [hL, List.length_take]; omega
 have hml : ml = L ++ (if special then [sp] else []) := by rw [hmlE, hL]; rfl
 have HML := Lib.hid hml
 rw [← hL] at hr0
 obtain ⟨m, hm⟩ : ∃ m, m = chain.length := ⟨_, rfl⟩
 rw [← hm] at hcap g0 hW0 hlv2 h24 ⊢
 obtain ⟨c0, c1, c2, c3, c4, c5, c6⟩ := par_cells g0
 have HG0 := Lib.hid g0
 have HW0 := Lib.hid hW0
 have HR0 := Lib.hid hr0
 have HL := Lib.hid hLl
 clear hr g0 hW0 hr0 hm hL hLl hml hmlE hpost
 obtain ⟨i0, hi, hiz, hiz1, hizb⟩ := info_parts info32
 have hown0 := World.owns_nil W0 W0.heap.size 22 1
 have q1 : 0 + (L.map u32V).length ≤ maxLen := by rw [List.length_map, HL.out]; unfold maxLen; omega
 have q2 : (0 + (L.map u32V).length) * 4 ≤ 140737488355328 := by rw [List.length_map, HL.out]; omega
 have HQ1 := Lib.hid q1
 have HQ2 := Lib.hid q2
 have z1 : (0 : Int) ≤ (lv : Int) := by omega
 have z2 : (lv : Int) ≤ (cap : Int) := by omega
 have z4 : (lv : Int).toNat = lv := by omega
 clear q1 q2
 go_enter Tryz.func24, Tryz.ntmps24
 go_upto_region 1 with (fail)
 rw [← HW0.out]
 go_upto_region 3 with (at_builtin; refine wpList_append_reads W0 rfl (.tmp 8) (.tmp 12) 23 rfl W0.heap.size 22 i0 (.int .u32 0) 4 Tryz.underlying23 hi hiz hiz1 hizb rfl (.slice none 0 0) 0 [] rfl hown0 w.heap.size (.slice a lv cap) (L.map u32V) rfl HR0.out (one_u32 L) HQ1.out HQ2.out (Nat.le_refl _) ?_; intro v1 w1 hown1 hg1)
 have hb1 : Below W0.heap.size W0 w1 := (Below.refl _ _).grown hg1 (Nat.le_refl _) (fun k hk => by simp [Value.ownBlock] at hk)
 have hB1 := hB0.trans (hb1.mono hB0.size)
 have hg := (hb1.block _ hz0).trans HG0.out
 have hs1 := hb1.size
 rw [List.nil_append, Nat.zero_add, List.length_map, HL.out] at hown1
 obtain ⟨gb, gc, rfl⟩ := hown1.pos (by omega)
 clear c0 c1 c2 c3 c4 c5 c6 hg1 hown0
 obtain ⟨c0, c1, c2, c3, c4, c5, c6⟩ := par_cells hg
 have HO1 := Lib.hid hown1
 clear hg hown1
 cases special
 ·go_wp2
  go_ret
  refine HPOST.out _ _ ⟨⟨_, rfl, ?_⟩, hB1⟩
  rw [HML.out]
  have := HO1.out.reads
  simpa using this
 ·go_wp2_with (at_builtin; refine wpList_push1 rfl (.tmp 15) (.tmp 18) 23 rfl W0.heap.size 22 i0 (.int .u32 0) 4 Tryz.underlying23 hi hiz hiz1 hizb rfl (.slice (some ⟨gb, 0, none⟩) lv gc) lv (L.map u32V) rfl HO1.out (.int .u32 (sp : Int)) w1.heap.size rfl rfl rfl (by unfold maxLen; omega) (by omega) hs1 ?_; intro v2 w2 hown2 hz2 hBB; obtain ⟨gb2, gc2, rfl⟩ := hown2.pos (by omega))
  have HO2 := Lib.hid hown2
  have HBB := Lib.hid hBB
  clear hown2 hBB
  go_wp2
  go_ret
  refine HPOST.out _ _ ⟨⟨_, rfl, ?_⟩, HBB.out _ _ hB1 hB0.size⟩
  rw [HML.out]
  have := HO2.out.reads
  simpa [u32V] using this
end G
/- Walks: the cutter of a width. -/
/- Walks: numbers of digits. -/
/- Walks: the number of digits and their bound. -/
/- Rows that are appended one by one to the element that a function makes. -/
namespace G
open Go.RowKit Go.Shelf Go.BigFrame
theorem elem_store {W : World} {b : Nat} {u0 u1 u2 v0 v1 v2 : Value} (h : W.heap[b]? = some (.cells #[u0, u1, u2] 28)) {W6 : World} (hW : W6 = ((W.setCell ⟨b, 0, none⟩ v0).setCell ⟨b, 1, none⟩ v1).setCell ⟨b, 2, none⟩ v2) :
  W6.heap[b]? = some (.cells #[v0, v1, v2] 28) ∧ (∀ g, b < g → W6.heap[g]? = W.heap[g]?) ∧ (∀ B0 w0, Below B0 w0 W → B0 ≤ b → Below B0 w0 W6) := by
 subst hW
 refine ⟨by simp [World.setCell, Array.getElem?_modify, h], fun g hg => ?_, fun B0 w0 hB hb => ((hB.setCell (by simpa using hb) _).setCell (by simpa using hb) _).setCell (by simpa using hb) _⟩
 iterate 3 rw [Below.heap_setCell _ _ _ _ (by simp; omega)]
/-! ### Weight -/
end G
/- Walks: the weights. -/
namespace G
open Go.RowKit Go.Shelf Go.BigFrame
theorem elem_cells {w : World} {b : Nat} {v0 v1 v2 : Value} {t : TypeId} (h : w.heap[b]? = some (.cells #[v0, v1, v2] t)) :
  w.cell? ⟨b, 0, none⟩ = some v0 ∧ w.cell? ⟨b, 1, none⟩ = some v1 ∧ w.cell? ⟨b, 2, none⟩ = some v2 ∧ w.frozen? ⟨b, 0, none⟩ = false ∧ w.frozen? ⟨b, 1, none⟩ = false ∧ w.frozen? ⟨b, 2, none⟩ = false := by
 refine ⟨?_, ?_, ?_, ?_, ?_, ?_⟩ <;> first | (simp [World.cell?, h]; done) | (simp [World.frozen?, h]; done)
end G
/- Walks: the reference's check of an element. -/
namespace G
open Go.RowKit Go.Shelf Go.BigFrame
theorem anyGe_succ (q : Nat) (r : List Nat) (j y : Nat) (h : r[j]? = some y) : anyGe q (r.take (j + 1)) = (anyGe q (r.take j) || decide (q ≤ y)) := by
 unfold anyGe
 rw [List.take_add_one, h]; simp
theorem anyGe_at {q : Nat} {r : List Nat} {j y : Nat} (h : r[j]? = some y) (hy : q ≤ y) : anyGe q r = true := by
 unfold anyGe
 rw [List.any_eq_true]
 exact ⟨y, List.mem_of_getElem? h, by simpa using hy⟩
theorem okRow_no {N : Int} {l : List Nat} {rows : List (List Nat)} {i q : Nat} {x : List Nat} (hl : l[i]? = some q) (hx : rows[i]? = some x) (hb : (decide ((x.length : Int) = N) && !anyGe q x) = false) : (List.finRange l.length).all (okRow N l rows) = false := by
 have hi := (List.getElem?_eq_some_iff.1 hl).1
 rw [← Bool.not_eq_true, List.all_eq_true]
 intro hall
 have := hall ⟨i, hi⟩ (List.mem_finRange _)
 unfold okRow at this
 have hq : l[i] = q := by rw [List.getElem?_eq_getElem hi] at hl; injection hl
 simp only [hx, Option.any_some, hq] at this
 rw [hb] at this; cases this
theorem okRow_yes {N : Int} {l : List Nat} {rows : List (List Nat)} {i q : Nat} {x : List Nat} (hl : l[i]? = some q) (hx : rows[i]? = some x) (h1 : (x.length : Int) = N) (h2 : anyGe q x = false) (hi : i < l.length) : okRow N l rows ⟨i, hi⟩ = true := by
 unfold okRow
 have hq : l[i] = q := by rw [List.getElem?_eq_getElem hi] at hl; injection hl
 simp only [hx, Option.any_some, hq, h1, h2]; simp
def ErrPost (b : Bool) (w : World) (e : Ending) (w' : World) : Prop := e = .returned (.int .i64 (errI b)) ∧ Below w.heap.size w w'
theorem rcheck_any (N pr pw wt er : Int) (cv : Value) (chain : List Nat) (sp : Nat) (level : Int) (special : Bool) (rv : Value) (rows : List (List Nat)) (w : World) (hr : w.reads w.heap.size cv (chain.map u32V)) (hrow : w.rows u32V w.heap.size rv rows) :
  Calls Tryz.prog 23 #[.agg #[.int .i64 N, .int .u32 pr, .int .i64 pw, cv, .int .u32 (sp : Int), .int .i64 wt, .int .u32 er], .agg #[.int .i64 level, .bool special, rv]] w (ErrPost (checkB N chain sp level special rows) w) := by
 obtain ⟨r, hrr⟩ : ∃ r, r = checkB N chain sp level special rows := ⟨_, rfl⟩
 rw [← hrr]
 unfold checkB preB at hrr
 have hpost : ∀ e w', e = .returned (.int .i64 (errI r)) ∧ Below w.heap.size w w' → ErrPost r w e w' := fun _ _ h => h
 have HPOST := Lib.hid hpost
 obtain ⟨a, cap, rfl, hcap, hmx, -⟩ := reads_u32 hr
 obtain ⟨ra, rcap, rfl, hrc, hrm, -⟩ := hrow.shape
 obtain ⟨W0, hW0⟩ : ∃ W0, W0 = (w.alloc (.cells #[.int .i64 N, .int .u32 pr, .int .i64 pw, .slice a chain.length cap, .int .u32 (sp : Int), .int .i64 wt, .int .u32 er] 25)).alloc (.cells #[.int .i64 level, .bool special, .slice ra rows.length rcap] 28) := ⟨_, rfl⟩
 have hB0 : Below w.heap.size w W0 := by rw [hW0]; exact ((Below.refl _ w).alloc (Nat.le_refl _) _).alloc (by simp) _
 have g0 : W0.heap[w.heap.size]? = some (.cells #[.int .i64 N, .int .u32 pr, .int .i64 pw, .slice a chain.length cap, .int .u32 (sp : Int), .int .i64 wt, .int .u32 er] 25) := by rw [hW0, Below.heap_alloc _ _ _ (by simp)]; exact alloc_last _ _ rfl
 have e0 : W0.heap[w.heap.size + 1]? = some (.cells #[.int .i64 level, .bool special, .slice ra rows.length rcap] 28) := by rw [hW0]; exact alloc_last _ _ (by simp)
 have hz0 := lt_of_heap e0
 have HR0 := Lib.hid ((hr.below hB0).mono hB0.size)
 have HROW := Lib.hid ((hrow.below hB0).mono hB0.size)
 have HV := Lib.hid (valid09_any N pr pw wt er _ chain sp W0 HR0.out)
 have HP := Lib.hid (fun W hb => rplace_any N pr pw wt er _ chain sp level special W ((HR0.out.below hb).mono (Below.size hb)))
 have HMO := Lib.hid (fun W hb lv h1 h2 h3 => rmoduli_any N pr pw wt er _ chain sp lv special W ((HR0.out.below hb).mono (Below.size hb)) h1 h2 h3)
 unfold OkPost at HV HP
 unfold ModPost at HMO
 obtain ⟨vb, hvb⟩ : ∃ vb, vb = validB N chain sp := ⟨_, rfl⟩
 rw [← hvb] at HV hrr
 have HVB := Lib.hid hvb
 obtain ⟨pb, hpb⟩ : ∃ pb, pb = placeB chain sp level special := ⟨_, rfl⟩
 rw [← hpb] at HP hrr
 have HPB := Lib.hid hpb
 have HR := Lib.hid hrr
 obtain ⟨m, hm⟩ : ∃ m, m = chain.length := ⟨_, rfl⟩
 obtain ⟨l, hl⟩ : ∃ l, l = rows.length := ⟨_, rfl⟩
 have hlb := hrow.le
 rw [← hm, ← hl] at hW0
 rw [← hm] at hcap g0 HV HP HMO
 rw [← hl] at hrc e0 hlb
 have HM := Lib.hid hm
 have HL := Lib.hid hl
 rw [← hm, ← hl]
 obtain ⟨c0, c1, c2, c3, c4, c5, c6⟩ := par_cells g0
 obtain ⟨k0, k1, k2, -, -, -⟩ := elem_cells e0
 have HG0 := Lib.hid g0
 have HE0 := Lib.hid e0
 have HW0 := Lib.hid hW0
 have hz1 : w.heap.size < W0.heap.size := by omega
 clear hr hrow g0 e0 hW0 hm hl hrr hvb hpb hpost
 cases vb
 ·obtain rfl : r = false := by rw [HR.out]; rfl
  go_enter Tryz.func23, Tryz.ntmps23
  go_upto_region 1 with (fail)
  rw [← HW0.out]
  go_wp2_with fail
  refine HV.out.mono ?_
  rintro e w1 ⟨rfl, hb1⟩
  go_wp2
  go_ret
  exact HPOST.out _ _ ⟨rfl, hB0.trans (hb1.mono hB0.size)⟩
 go_enter Tryz.func23, Tryz.ntmps23
 go_upto_region 1 with (fail)
 rw [← HW0.out]
 go_wp2_with fail
 refine HV.out.mono ?_
 rintro e w1 ⟨rfl, hb1⟩
 have hg1 := (hb1.block _ hz1).trans HG0.out
 have he1 := (hb1.block _ hz0).trans HE0.out
 clear c0 c1 c2 c3 c4 c5 c6 k0 k1 k2
 obtain ⟨c0, c1, c2, c3, c4, c5, c6⟩ := par_cells hg1
 obtain ⟨k0, k1, k2, -, -, -⟩ := elem_cells he1
 have HP1 := HP.out w1 hb1
 have hs1 := hb1.size
 clear hg1 he1
 go_wp2_with fail
 refine HP1.mono ?_
 rintro e w2 ⟨rfl, hb2⟩
 have hB2 := hb1.trans (hb2.mono hs1)
 clear HP1
 cases pb
 ·obtain rfl : r = false := by rw [HR.out]; rfl
  go_wp2
  go_ret
  exact HPOST.out _ _ ⟨rfl, hB0.trans (hB2.mono hB0.size)⟩
 obtain ⟨lv, hlv, hl1, hl2⟩ := levB_nat HPB.out.symm
 obtain ⟨n, hN, hn1, hn2⟩ := sizeB_nat HVB.out.symm
 have h24 := (validB_len HVB.out.symm).2
 have hg2 := (hB2.block _ hz1).trans HG0.out
 have he2 := (hB2.block _ hz0).trans HE0.out
 have hs2 := hB2.size
 clear c0 c1 c2 c3 c4 c5 c6 k0 k1 k2
 obtain ⟨c0, c1, c2, c3, c4, c5, c6⟩ := par_cells hg2
 obtain ⟨k0, k1, k2, -, -, -⟩ := elem_cells he2
 have HM2 := HMO.out w2 hB2 lv hl1 (by rw [HM.out]; exact hl2) (by rw [HM.out]; exact h24)
 rw [hlv] at k0
 rw [hN] at c0
 rw [hN] at HM2
 have hml := modl_length chain sp lv special hl2
 have HR1 : Hid (r = (decide (l = (modl chain sp lv special).length) && (List.finRange (modl chain sp lv special).length).all (okRow (n : Int) (modl chain sp lv special) rows))) := by
  show _ = _; rw [HR.out, HL.out, hlv, hN]; simp
 obtain ⟨ml, hmlE⟩ : ∃ ml, ml = modl chain sp lv special := ⟨_, rfl⟩
 rw [← hmlE] at HM2 HR1 hml
 have hRb : ml.length ≤ 25 := by rw [hml]; split <;> omega
 clear hg2 he2 HR hlv hmlE hl1 hl2 h24 hml
 go_wp2_with fail
 refine HM2.mono ?_
 rintro e w3 ⟨⟨v, rfl, hv⟩, hb3⟩
 have hB3 := hB2.trans (hb3.mono hs2)
 have hBw := hB0.trans (hB3.mono hB0.size)
 have hg3 := (hB3.block _ hz1).trans HG0.out
 have he3 := (hB3.block _ hz0).trans HE0.out
 obtain ⟨va, vc, rfl, hvc, hvm, hvs⟩ := reads_u32 hv
 obtain ⟨R, hR⟩ : ∃ R, R = ml.length := ⟨_, rfl⟩
 rw [← hR] at hvc hRb ⊢
 have HRR := Lib.hid hR
 have HVS := Lib.hid hvs
 clear c0 c1 c2 c3 c4 c5 c6 k0 k1 k2 HM2 hv hvs hR
 have hg3' := hg3
 rw [hN] at hg3'
 obtain ⟨c0, -, -, -, -, -, -⟩ := par_cells hg3'
 obtain ⟨-, -, k2, -, -, -⟩ := elem_cells he3
 have HS : Hid (∀ (j : Nat) (x : List Nat), rows[j]? = some x → ∃ b off b2 c2, ra = some ⟨b, off, none⟩ ∧ w3.cell? ⟨b, off + j, none⟩ = some (.slice b2 x.length c2) ∧ w3.reads w3.heap.size (.slice b2 x.length c2) (x.map u32V)) := by
  intro j x hj
  obtain ⟨ra', rcap', hra, -, -, hsh⟩ := ((HROW.out.below hB3).mono hB3.size).shape
  injection hra with hra
  obtain ⟨b, off, b2, c2, h1, -, h3, h4⟩ := hsh j x hj
  exact ⟨b, off, b2, c2, by rw [hra]; exact h1, h3, h4⟩
 have HBW := Lib.hid hBw
 clear hg3 hg3' he3 hBw hb1 hb2 hb3 hB2 hB3 hB0 HP HMO HV hN
 by_cases hlR : l = R
 case neg =>
  obtain rfl : r = false := by
   have h1 : ¬ l = ml.length := by rw [← HRR.out]; exact hlR
   rw [HR1.out]; simp [h1]
  have t1 : ((l : Int) != (R : Int)) = true := by rw [bne_iff_ne]; omega
  clear hlR
  go_wp2
  go_ret
  exact HPOST.out _ _ ⟨rfl, HBW.out⟩
 subst hlR
 have t1 : ((l : Int) != (l : Int)) = false := by simp
 have HR2 : Hid (r = (List.finRange ml.length).all (okRow (n : Int) ml rows)) := by
  have h1 := HRR.out
  show _ = _; rw [HR1.out]; simp [h1]
 clear HR1
 go_wp2_with fail
 go_loopw [6] (fun i wx => ∃ k d : Nat, k ≤ l ∧ i = .int .i64 (k : Int) ∧ wx = w3.drewN d ∧ Hid (∀ (j : Nat) (h : j < ml.length), j < k → okRow (n : Int) ml rows ⟨j, h⟩ = true)) (fun i _ => l - (intOf i).toNat)
 case atStart => exact ⟨0, 0, Nat.zero_le _, rfl, rfl, fun j h hj => by omega⟩
 case round =>
  obtain ⟨i, d0, hi, rfl, rfl, hok⟩ := hrel
  by_cases hlt : i < l
  ·obtain ⟨q, hq⟩ : ∃ x, ml[i]? = some x := ⟨ml[i]'(by rw [← HRR.out]; exact hlt), List.getElem?_eq_getElem _⟩
   obtain ⟨x, hx⟩ : ∃ x, rows[i]? = some x := ⟨rows[i]'(by rw [← HL.out]; exact hlt), List.getElem?_eq_getElem _⟩
   obtain ⟨vb, vo, rfl, _, hcq⟩ := HVS.out i q hq
   obtain ⟨b, off, xb, xc, rfl, hcx, hrx⟩ := HS.out i x hx
   obtain ⟨xb', xc', hxe, hxc, hxm, hxs⟩ := reads_u32 hrx
   injection hxe with hxe _ hxe2
   subst hxe hxe2
   have HQ := Lib.hid hq
   have HX := Lib.hid hx
   have HXS := Lib.hid hxs
   obtain ⟨xl, hxl⟩ : ∃ xl, xl = x.length := ⟨_, rfl⟩
   rw [← hxl] at hcx hxc
   have HXL := Lib.hid hxl
   clear hq hx hrx hxs hxl
   have i1 : (0 : Int) ≤ (i : Int) := by omega
   have i2 : (i : Int) < (l : Int) := by omega
   by_cases hxn : xl = n
   case neg =>
    obtain rfl : r = false := by rw [HR2.out]; exact okRow_no HQ.out HX.out (by rw [← HXL.out]; simp; omega)
    have t2 : ((xl : Int) != (n : Int)) = true := by rw [bne_iff_ne]; omega
    clear hxn
    go_upto_region 9 with (fail)
    go_quiet (fail)
    go_wp2
    go_ret
    exact HPOST.out _ _ ⟨rfl, below_drewN HBW.out _⟩
   subst hxn
   have t2 : ((xl : Int) != (xl : Int)) = false := by simp
   go_upto_region 9 with (fail)
   go_quiet (fail)
   go_wp2_with fail
   go_loopw [7] (fun jj wx => ∃ k d : Nat, k ≤ xl ∧ jj = .int .i64 (k : Int) ∧ wx = w3.drewN d ∧ Hid (anyGe q (x.take k) = false)) (fun jj _ => xl - (intOf jj).toNat)
   case atStart => exact ⟨0, _, Nat.zero_le _, rfl, by first | rfl | exact World.drewN_drewN _ _ _, rfl⟩
   case round =>
    obtain ⟨j, d1, hj, rfl, rfl, hno⟩ := hrel
    by_cases hltj : j < xl
    ·obtain ⟨y, hy⟩ : ∃ y, x[j]? = some y := ⟨x[j]'(by rw [← HXL.out]; exact hltj), List.getElem?_eq_getElem _⟩
     obtain ⟨yb, yo, rfl, _, hcy⟩ := HXS.out j y hy
     have HY := Lib.hid hy
     clear hy
     have j1 : (0 : Int) ≤ (j : Int) := by omega
     have j2 : (j : Int) < (xl : Int) := by omega
     by_cases hqy : q ≤ y
     ·obtain rfl : r = false := by rw [HR2.out]; exact okRow_no HQ.out HX.out (by rw [anyGe_at HY.out hqy]; simp)
      go_upto_region 14 with (fail)
      go_quiet (fail)
      go_wp2
      go_ret
      exact HPOST.out _ _ ⟨rfl, by first | exact below_drewN HBW.out _ | exact below_drewN (below_drewN HBW.out _) _⟩
     ·have HQY := Lib.hid hqy
      have t3 : (y : Int) < (q : Int) := by omega
      clear hqy
      go_upto_region 14 with (fail)
      go_quiet (fail)
      go_wp2
      go_roundw
      case rel => exact ⟨j + 1, _, by omega, by go_num, by first | rfl | exact World.drewN_drewN _ _ _, by show _ = _; rw [anyGe_succ _ _ _ _ HY.out, hno.out]; simp [HQY.out]⟩
      case measure => simp [intOf]; omega
    ·obtain rfl : xl = j := by omega
     have hok2 : Hid (∀ (j : Nat) (h : j < ml.length), j < i + 1 → okRow (xl : Int) ml rows ⟨j, h⟩ = true) := by
      intro j' h hj'
      rcases Nat.lt_or_eq_of_le (Nat.le_of_lt_succ hj') with h1 | rfl
      ·exact hok.out j' h h1
      ·refine okRow_yes HQ.out HX.out (by rw [HXL.out]) ?_ h
       have := hno.out
       rw [List.take_of_length_le (by rw [← HXL.out]; exact Nat.le_refl _)] at this
       exact this
     clear hno hok
     go_wp2
     go_roundw
     case rel => exact ⟨i + 1, _, by omega, by go_num, rfl, hok2⟩
     case measure => simp [intOf]; omega
  ·obtain rfl : i = l := by omega
   obtain rfl : r = true := by
    rw [HR2.out, List.all_eq_true]
    intro x _
    exact hok.out x.1 x.2 (by rw [HRR.out]; exact x.2)
   clear hok
   go_wp2
   go_ret
   exact HPOST.out _ _ ⟨rfl, below_drewN HBW.out d0⟩
end G
/- The element that a reference function fills row by row. -/
namespace G
open Go.RowKit Go.Shelf Go.BigFrame
theorem infoU32r : (Tryz.prog.info? 23).map (fun i => (i.zero, i.size, i.bytes)) = some (some (.slice none 0 0), 1, 24) := by kernel_rfl
def OutE (w W4 : World) (b3 : Nat) (lv : Int) (s : Bool) (rows : List (List Nat)) (wr : World) : Prop :=
 ∃ sv, wr.heap[b3]? = some (.cells #[.int .i64 lv, .bool s, sv] 28) ∧ wr.rowsO u32V W4.heap.size 23 22 sv rows ∧ (∀ b, b < W4.heap.size → b ≠ b3 → wr.heap[b]? = W4.heap[b]?) ∧ W4.heap.size ≤ wr.heap.size ∧ Below w.heap.size w wr
theorem OutE.start {w W4 : World} {b3 : Nat} {lv : Int} {s : Bool} (h : W4.heap[b3]? = some (.cells #[.int .i64 lv, .bool s, .slice none 0 0] 28)) (hb : Below w.heap.size w W4) : OutE w W4 b3 lv s [] W4 :=
 ⟨_, h, World.rowsO_nil _ _ _ _, fun _ _ _ => rfl, Nat.le_refl _, hb⟩
theorem OutE.open_ {w W4 wr : World} {b3 : Nat} {lv : Int} {s : Bool} {rows : List (List Nat)} (h : OutE w W4 b3 lv s rows wr) :
  ∃ a c, wr.heap[b3]? = some (.cells #[.int .i64 lv, .bool s, .slice a rows.length c] 28) ∧ wr.rowsO u32V W4.heap.size 23 22 (.slice a rows.length c) rows := by
 obtain ⟨sv, h1, h2, -⟩ := h
 obtain ⟨a, c, rfl⟩ := h2.open_
 exact ⟨a, c, h1, h2⟩
theorem OutE.below {w W4 wr W' : World} {b3 : Nat} {lv : Int} {s : Bool} {rows : List (List Nat)} (h : OutE w W4 b3 lv s rows wr) (hb : Below wr.heap.size wr W') : OutE w W4 b3 lv s rows W' := by
 obtain ⟨sv, h1, h2, h3, h4, h5⟩ := h
 exact ⟨sv, (hb.block _ (lt_of_heap h1)).trans h1, h2.below hb, fun b k1 k2 => (hb.block b (by omega)).trans (h3 b k1 k2), by have := hb.size; omega, h5.trans (hb.mono h5.size)⟩
theorem OutE.size {w W4 wr : World} {b3 : Nat} {lv : Int} {s : Bool} {rows : List (List Nat)} (h : OutE w W4 b3 lv s rows wr) : W4.heap.size ≤ wr.heap.size ∧ b3 < wr.heap.size := by
 obtain ⟨sv, h1, h2, h3, h4, h5⟩ := h
 exact ⟨h4, lt_of_heap h1⟩
theorem OutE.cell {w W4 wr : World} {b3 : Nat} {lv : Int} {s : Bool} {rows : List (List Nat)} (h : OutE w W4 b3 lv s rows wr) {b o : Nat} (h1 : b < W4.heap.size) (h2 : b ≠ b3) : wr.cell? ⟨b, o, none⟩ = W4.cell? ⟨b, o, none⟩ := by
 obtain ⟨sv, -, -, h3, -, -⟩ := h
 exact World.cell?_of_block (a := ⟨b, o, none⟩) (h3 b h1 h2)
theorem OutE.block {w W4 wr : World} {b3 : Nat} {lv : Int} {s : Bool} {rows : List (List Nat)} (h : OutE w W4 b3 lv s rows wr) {b : Nat} (h1 : b < W4.heap.size) (h2 : b ≠ b3) : wr.heap[b]? = W4.heap[b]? := by
 obtain ⟨sv, -, -, h3, -, -⟩ := h
 exact h3 b h1 h2
theorem OutE.reads {w W4 wr : World} {b3 : Nat} {lv : Int} {s : Bool} {rows : List (List Nat)} (h : OutE w W4 b3 lv s rows wr) {B : Nat} (hB : B ≤ b3) (hB4 : b3 < W4.heap.size) {v : Value} {xs : List Value} (hr : W4.reads B v xs) : wr.reads B v xs := by
 obtain ⟨a, cap, hv, hn, hz, hmx, hc⟩ := hr
 refine ⟨a, cap, hv, hn, hz, hmx, fun j u hj => ?_⟩
 obtain ⟨b, off, ha, hb, hcell⟩ := hc j u hj
 exact ⟨b, off, ha, hb, (h.cell (by omega) (by omega)).trans hcell⟩
theorem OutE.push {w W4 W5 W6 : World} {b3 : Nat} {lv : Int} {s : Bool} {rows : List (List Nat)} {v6 : Value} {r : List Nat} (h : OutE w W4 b3 lv s rows W5) (hw : w.heap.size ≤ b3) (hb : b3 < W4.heap.size)
  (hO : W6.rowsO u32V W4.heap.size 23 22 v6 (rows ++ [r])) (hBB : ∀ B0 w0, Below B0 w0 W5 → B0 ≤ W4.heap.size → Below B0 w0 W6) :
  (∀ sv, W5.heap[b3]? = some (.cells #[.int .i64 lv, .bool s, sv] 28) → W6.heap[b3]? = some (.cells #[.int .i64 lv, .bool s, sv] 28)) ∧ OutE w W4 b3 lv s (rows ++ [r]) (W6.setCell ⟨b3, 2, none⟩ v6) := by
 obtain ⟨sv, h1, h2, h3, h4, h5⟩ := h
 have hb56 := hBB W4.heap.size W5 (Below.refl _ _) (Nat.le_refl _)
 have h16 := (hb56.block _ hb).trans h1
 refine ⟨fun sv' hs => (hb56.block _ hb).trans hs, v6, ?_, hO.setCell (by simpa using hb) _, ?_, by have := hb56.size; simp; omega, ?_⟩
 ·simp [World.setCell, Array.getElem?_modify, h16]
 ·intro b k1 k2
  rw [Below.heap_setCell _ _ _ _ (by simpa using k2), hb56.block b k1]
  exact h3 b k1 k2
 ·exact (hBB w.heap.size w h5 (by omega)).setCell (by simpa using hw) _
theorem OutE.store {w W4 wr W6 : World} {b3 rb : Nat} {lv : Int} {s : Bool} {rows : List (List Nat)} {a : Option Addr} {n c : Nat} (h : OutE w W4 b3 lv s rows wr) (hr : wr.heap[b3]? = some (.cells #[.int .i64 lv, .bool s, .slice a n c] 28)) {u0 u1 u2 : Value} (hrb : rb < W4.heap.size) (hw : w.heap.size ≤ rb)
  (h0 : wr.heap[rb]? = some (.cells #[u0, u1, u2] 28)) (hW : W6 = ((wr.setCell ⟨rb, 0, none⟩ (.int .i64 lv)).setCell ⟨rb, 1, none⟩ (.bool s)).setCell ⟨rb, 2, none⟩ (.slice a n c)) :
  W6.heap[rb]? = some (.cells #[.int .i64 lv, .bool s, .slice a n c] 28) ∧ W6.rowsO u32V W4.heap.size 23 22 (.slice a n c) rows ∧ Below w.heap.size w W6 := by
 obtain ⟨sv, h1, h2, h3, h4, h5⟩ := h
 obtain rfl : sv = .slice a n c := by
  rw [hr] at h1; injection h1 with h1; injection h1 with h1 _ _; injection h1 with h1; injection h1 with _ h1; injection h1 with _ h1; injection h1 with h1 _; exact h1.symm
 obtain ⟨k1, k2, k3⟩ := elem_store h0 hW
 refine ⟨k1, ?_, k3 _ _ h5 hw⟩
 subst hW
 exact ((h2.setCell (by simpa using hrb) _).setCell (by simpa using hrb) _).setCell (by simpa using hrb) _
end G
/- Walks: the reference's product modulo x^n + 1. -/
namespace G
open Go.RowKit Go.Shelf Go.BigFrame
def nrow (f : Nat → Nat) (n : Nat) : Array Value := ((List.range n).map fun c => Value.int .u32 (f c : Int)).toArray
theorem nrow_get (f : Nat → Nat) (n j : Nat) (h : j < n) : (nrow f n)[j]? = some (.int .u32 (f j : Int)) := by simp [nrow, h]
theorem nrow_zero (n : Nat) : zrow n = nrow (fun _ => 0) n := by
 unfold zrow nrow
 apply Array.ext
 ·simp
 ·intro i h1 h2; simp
theorem nrow_set (f : Nat → Nat) (n j : Nat) (v : Nat) : (nrow f n).setIfInBounds j (.int .u32 (v : Int)) = nrow (fun c => if c = j then v else f c) n := by
 unfold nrow
 apply Array.ext
 ·simp
 ·intro i h1 h2
  simp only [Array.size_setIfInBounds, List.size_toArray, List.length_map, List.length_range] at h1 h2
  rw [Array.getElem_setIfInBounds (by simpa using h1)]
  by_cases e : j = i
  ·subst e; simp
  ·rw [if_neg e]; simp [show ¬ i = j from fun h => e h.symm]
theorem resN_spec (q : Nat) (hq : 0 < q) (x : Int) : ∃ t : Int, x = (resN q x : Int) + (q : Int) * t := ⟨x / (q : Int), by rw [resN_int q x hq]; have := Int.mul_ediv_add_emod x (q : Int); omega⟩
end G
/- Walks: what is joined from digits. -/
/- Walks: the iterator over the digits of an integer. -/
/- Tables of digits in memory. -/
/- Plain: a step of the reference's cutting; lists that are made by position. -/
/- Walks: whether two elements may be added; sums. -/
namespace G
open Go.RowKit Go.Shelf Go.BigFrame
def EltOk (n : Nat) (ml : List Nat) (rows : List (List Nat)) : Prop := rows.length = ml.length ∧ ∀ (i : Nat) (r : List Nat), rows[i]? = some r → r.length = n ∧ ∃ q, ml[i]? = some q ∧ ∀ x ∈ r, x < q
theorem modl_ok2 {N : Int} {chain : List Nat} {sp lv : Nat} {special : Bool} (hv : validB N chain sp = true) (hp : placeB chain sp (lv : Int) special = true) : ∀ q ∈ modl chain sp lv special, 3 ≤ q ∧ q ≤ 2147483647 := by
 intro q hq
 obtain ⟨i, hi, rfl⟩ := List.getElem_of_mem hq
 exact modAt_ok hv hp ⟨i, hi⟩
theorem checkB_elt {N : Int} {chain : List Nat} {sp : Nat} {level : Int} {special : Bool} {rows : List (List Nat)} (h : checkB N chain sp level special rows = true) :
  ∃ n lv : Nat, N = (n : Int) ∧ level = (lv : Int) ∧ 4 ≤ n ∧ n ≤ 32 ∧ 1 ≤ lv ∧ lv ≤ chain.length ∧ chain.length ≤ 24 ∧ (∀ q ∈ modl chain sp lv special, 3 ≤ q ∧ q ≤ 2147483647) ∧ EltOk n (modl chain sp lv special) rows := by
 unfold checkB at h
 rw [Bool.and_eq_true, Bool.and_eq_true] at h
 obtain ⟨hp, hl, hall⟩ := h
 unfold preB at hp
 rw [Bool.and_eq_true] at hp
 obtain ⟨hv, hpl⟩ := hp
 obtain ⟨lv, rfl, h1, h2⟩ := levB_nat hpl
 obtain ⟨n, rfl, hn1, hn2⟩ := sizeB_nat hv
 refine ⟨n, lv, rfl, rfl, hn1, hn2, h1, h2, (validB_len hv).2, modl_ok2 hv hpl, by simpa using hl, fun i r hr => ?_⟩
 simp only [Int.toNat_natCast] at hl hall
 have hi : i < (modl chain sp lv special).length := by
  have := (List.getElem?_eq_some_iff.1 hr).1
  rw [decide_eq_true_eq] at hl; omega
 rw [List.all_eq_true] at hall
 have := hall ⟨i, hi⟩ (List.mem_finRange _)
 unfold okRow at this
 simp only [hr, Option.any_some, Bool.and_eq_true, decide_eq_true_eq, Bool.not_eq_true'] at this
 obtain ⟨k1, k2⟩ := this
 refine ⟨by omega, _, List.getElem?_eq_getElem hi, fun x hx => ?_⟩
 unfold anyGe at k2
 rw [List.any_eq_false] at k2
 have := k2 x hx
 simp at this
 exact this
end G
/- Moves of a walk through a region that draws its order, by hand. -/
end Go.Proofs.YtkjlfjnncdkmlaaGreat
namespace Go
open RowKit
section
variable {P : Program} {ops : Array Oper} {Q : Exit → Act → World → Prop} {S : World → Prop}
theorem wpAnyH_takeL (i : Nat) {oi : Oper} {v : Value} {fuel : Nat} {listed : Array Bool} {a : Act} {w : World} (hr : (Region.ready .any ops listed).contains i = true) (hi : ops.toList[i]? = some oi)
  (hs : Region.noSelect ops = true) (hf : Region.free .any ops listed i = true)
  (hQ : ∀ c a w, Q (.panic c) (a.put oi.dst v) w → Q (.panic c) a w) (hy : YieldsIf P ops S oi v a) (hS : S w)
  (h : wpAnyH P .any ops Q S fuel (listed.setIfInBounds i true) (a.put oi.dst v) w) : wpAnyH P .any ops Q S (fuel + 1) listed a w :=
 wpAnyH_take (by simpa using hi) hs hf hr hQ hy hS h
theorem tkH (i : Nat) {oi : Oper} {v : Value} {fuel : Nat} {listed : Array Bool} {a : Act} {w : World} (hi : ops.toList[i]? = some oi) (hrun : ∀ w, S w → (execOp a.eval oi).run P w = .ok (.value v) w)
  (h : wpAnyH P .any ops Q S fuel (listed.setIfInBounds i true) (a.put oi.dst v) w) (hr : (Region.ready .any ops listed).contains i = true := by kernel_rfl) (hs : Region.noSelect ops = true := by kernel_rfl) (hf : Region.free .any ops listed i = true := by kernel_rfl) (hQ : ∀ c a w, Q (.panic c) (a.put oi.dst v) w → Q (.panic c) a w := by exact fun _ _ _ h => h) (hw : Region.wanted oi (yielded ops a.tmps) = true := by rfl) (hS : S w := by assumption) : wpAnyH P .any ops Q S (fuel + 1) listed a w :=
 wpAnyH_takeL i hr hi hs hf hQ (Or.inl ⟨hw, hrun⟩) hS h
theorem wpAnyH_end {fuel : Nat} {listed : Array Bool} {a : Act} {w : World} (hr : Region.ready .any ops listed = []) (h : Q .normal a w) : wpAnyH P .any ops Q S fuel listed a w := wpAnyH_done hr h fuel
theorem wp_region_heldL {id : Nat} {a : Act} {w : World} (S : World → Prop) (hm : P.follows .mixedOrders = true) (hS : S w.drew)
  (h : S w.drew → wpAnyH P .any ops Q S ops.size (Array.replicate ops.size false) a w.drew) : (Code.region id ops true).wp P Q a w :=
 wp_region_held hm (h hS)
end
end Go
