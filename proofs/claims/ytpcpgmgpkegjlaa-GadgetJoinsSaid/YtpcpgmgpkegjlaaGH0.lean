/- The element that a reference function fills row by row. -/
import Derived.Test.YtpcpgmgpkegjlaaGF8
namespace Go.Proofs.Ytpcpgmgpkegjlaa
open Go.RowKit Go.Shelf Go.BigFrame
theorem infoU32r : (Try.prog.info? 23).map (fun i => (i.zero, i.size, i.bytes)) = some (some (.slice none 0 0), 1, 24) := by kernel_rfl
/-- The element under way lies in block b3; its rows were made since W4. -/
def OutE (w W4 : World) (b3 : Nat) (lv : Int) (s : Bool) (rows : List (List Nat)) (wr : World) : Prop :=
  ∃ sv, wr.heap[b3]? = some (.cells #[.int .i64 lv, .bool s, sv] 28) ∧ wr.rowsO u32V W4.heap.size 23 22 sv rows ∧ (∀ b, b < W4.heap.size → b ≠ b3 → wr.heap[b]? = W4.heap[b]?) ∧ W4.heap.size ≤ wr.heap.size ∧ Below w.heap.size w wr
theorem OutE.start {w W4 : World} {b3 : Nat} {lv : Int} {s : Bool} (h : W4.heap[b3]? = some (.cells #[.int .i64 lv, .bool s, .slice none 0 0] 28)) (hb : Below w.heap.size w W4) : OutE w W4 b3 lv s [] W4 :=
  ⟨_, h, World.rowsO_nil _ _ _ _, fun _ _ _ => rfl, Nat.le_refl _, hb⟩
theorem OutE.open_ {w W4 wr : World} {b3 : Nat} {lv : Int} {s : Bool} {rows : List (List Nat)} (h : OutE w W4 b3 lv s rows wr) :
    ∃ a c, wr.heap[b3]? = some (.cells #[.int .i64 lv, .bool s, .slice a rows.length c] 28) ∧ wr.rowsO u32V W4.heap.size 23 22 (.slice a rows.length c) rows := by
  obtain ⟨sv, h1, h2, -⟩ := h
  obtain ⟨a, c, rfl⟩ := h2.open_
  exact ⟨a, c, h1, h2⟩
theorem OutE.below {w W4 wr W' : World} {b3 : Nat} {lv : Int} {s : Bool} {rows : List (List Nat)} (h : OutE w W4 b3 lv s rows wr) (hb : Below wr.heap.size wr W') : OutE w W4 b3 lv s rows W' := by
  obtain ⟨sv, h1, h2, h3, h4, h5⟩ := h
  exact ⟨sv, (hb.block _ (lt_of_heap h1)).trans h1, h2.below hb, fun b k1 k2 => (hb.block b (by omega)).trans (h3 b k1 k2), by have := hb.size; omega, h5.trans (hb.mono h5.size)⟩
theorem OutE.size {w W4 wr : World} {b3 : Nat} {lv : Int} {s : Bool} {rows : List (List Nat)} (h : OutE w W4 b3 lv s rows wr) : W4.heap.size ≤ wr.heap.size ∧ b3 < wr.heap.size := by
  obtain ⟨sv, h1, h2, h3, h4, h5⟩ := h
  exact ⟨h4, lt_of_heap h1⟩
theorem OutE.cell {w W4 wr : World} {b3 : Nat} {lv : Int} {s : Bool} {rows : List (List Nat)} (h : OutE w W4 b3 lv s rows wr) {b o : Nat} (h1 : b < W4.heap.size) (h2 : b ≠ b3) : wr.cell? ⟨b, o, none⟩ = W4.cell? ⟨b, o, none⟩ := by
  obtain ⟨sv, -, -, h3, -, -⟩ := h
  exact World.cell?_of_block (a := ⟨b, o, none⟩) (h3 b h1 h2)
theorem OutE.block {w W4 wr : World} {b3 : Nat} {lv : Int} {s : Bool} {rows : List (List Nat)} (h : OutE w W4 b3 lv s rows wr) {b : Nat} (h1 : b < W4.heap.size) (h2 : b ≠ b3) : wr.heap[b]? = W4.heap[b]? := by
  obtain ⟨sv, -, -, h3, -, -⟩ := h
  exact h3 b h1 h2
theorem OutE.reads {w W4 wr : World} {b3 : Nat} {lv : Int} {s : Bool} {rows : List (List Nat)} (h : OutE w W4 b3 lv s rows wr) {B : Nat} (hB : B ≤ b3) (hB4 : b3 < W4.heap.size) {v : Value} {xs : List Value} (hr : W4.reads B v xs) : wr.reads B v xs := by
  obtain ⟨a, cap, hv, hn, hz, hmx, hc⟩ := hr
  refine ⟨a, cap, hv, hn, hz, hmx, fun j u hj => ?_⟩
  obtain ⟨b, off, ha, hb, hcell⟩ := hc j u hj
  exact ⟨b, off, ha, hb, (h.cell (by omega) (by omega)).trans hcell⟩
/-- The append to it, and the store. -/
theorem OutE.push {w W4 W5 W6 : World} {b3 : Nat} {lv : Int} {s : Bool} {rows : List (List Nat)} {v6 : Value} {r : List Nat} (h : OutE w W4 b3 lv s rows W5) (hw : w.heap.size ≤ b3) (hb : b3 < W4.heap.size)
    (hO : W6.rowsO u32V W4.heap.size 23 22 v6 (rows ++ [r])) (hBB : ∀ B0 w0, Below B0 w0 W5 → B0 ≤ W4.heap.size → Below B0 w0 W6) :
    (∀ sv, W5.heap[b3]? = some (.cells #[.int .i64 lv, .bool s, sv] 28) → W6.heap[b3]? = some (.cells #[.int .i64 lv, .bool s, sv] 28)) ∧ OutE w W4 b3 lv s (rows ++ [r]) (W6.setCell ⟨b3, 2, none⟩ v6) := by
  obtain ⟨sv, h1, h2, h3, h4, h5⟩ := h
  have hb56 := hBB W4.heap.size W5 (Below.refl _ _) (Nat.le_refl _)
  have h16 := (hb56.block _ hb).trans h1
  refine ⟨fun sv' hs => (hb56.block _ hb).trans hs, v6, ?_, hO.setCell (by simpa using hb) _, ?_, by have := hb56.size; simp; omega, ?_⟩
  · simp [World.setCell, Array.getElem?_modify, h16]
  · intro b k1 k2
    rw [Below.heap_setCell _ _ _ _ (by simpa using k2), hb56.block b k1]
    exact h3 b k1 k2
  · exact (hBB w.heap.size w h5 (by omega)).setCell (by simpa using hw) _
/-- A block that holds an element holds no number of 32 bits. -/
theorem u32_not_elem {W : World} {b b3 o : Nat} {x lv : Int} {s : Bool} {a : Option Addr} {n c : Nat} {t : TypeId} (h3 : W.heap[b3]? = some (.cells #[.int .i64 lv, .bool s, .slice a n c] t)) (hc : W.cell? ⟨b, o, none⟩ = some (.int .u32 x)) : b ≠ b3 := by
  rintro rfl
  match o with
  | 0 => simp [World.cell?, h3] at hc
  | 1 => simp [World.cell?, h3] at hc
  | 2 => simp [World.cell?, h3] at hc
  | o + 3 => simp [World.cell?, h3] at hc
/-- The result is stored. -/
theorem OutE.store {w W4 wr W6 : World} {b3 rb : Nat} {lv : Int} {s : Bool} {rows : List (List Nat)} {a : Option Addr} {n c : Nat} (h : OutE w W4 b3 lv s rows wr) (hr : wr.heap[b3]? = some (.cells #[.int .i64 lv, .bool s, .slice a n c] 28)) {u0 u1 u2 : Value} (hrb : rb < W4.heap.size) (hw : w.heap.size ≤ rb)
    (h0 : wr.heap[rb]? = some (.cells #[u0, u1, u2] 28)) (hW : W6 = ((wr.setCell ⟨rb, 0, none⟩ (.int .i64 lv)).setCell ⟨rb, 1, none⟩ (.bool s)).setCell ⟨rb, 2, none⟩ (.slice a n c)) :
    W6.heap[rb]? = some (.cells #[.int .i64 lv, .bool s, .slice a n c] 28) ∧ W6.rowsO u32V W4.heap.size 23 22 (.slice a n c) rows ∧ Below w.heap.size w W6 := by
  obtain ⟨sv, h1, h2, h3, h4, h5⟩ := h
  obtain rfl : sv = .slice a n c := by
    rw [hr] at h1; injection h1 with h1; injection h1 with h1 _ _; injection h1 with h1; injection h1 with _ h1; injection h1 with _ h1; injection h1 with h1 _; exact h1.symm
  obtain ⟨k1, k2, k3⟩ := elem_store h0 hW
  refine ⟨k1, ?_, k3 _ _ h5 hw⟩
  subst hW
  exact ((h2.setCell (by simpa using hrb) _).setCell (by simpa using hrb) _).setCell (by simpa using hrb) _
/-- What a function answers that makes an element, or refuses. -/
def EltPost (ok : Bool) (lv : Int) (s : Bool) (rows : List (List Nat)) (w : World) (e : Ending) (w' : World) : Prop :=
  (if ok then ∃ rv, e = .returned (.tuple #[.agg #[.int .i64 lv, .bool s, rv], .int .i64 0]) ∧ w'.rowsO u32V w.heap.size 23 22 rv rows
    else e = .returned (.tuple #[.agg #[.int .i64 0, .bool false, .slice none 0 0], .int .i64 2])) ∧ Below w.heap.size w w'
end Go.Proofs.Ytpcpgmgpkegjlaa
