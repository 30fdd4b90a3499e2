/- Rows that are appended one by one to the element that a function makes. -/
import Derived.Test.YtpcpgmgpkegjlaaGB3
namespace Go.Proofs.Ytpcpgmgpkegjlaa
open Go.RowKit Go.Shelf Go.BigFrame
/-- The rows made so far, as lists. -/
def RowsL (W : World) (B n : Nat) (rows : List (List Nat)) (vs : List Value) : Prop :=
  vs.length = rows.length ∧ ∀ (j : Nat) (r : List Nat), rows[j]? = some r → ∃ g, vs[j]? = some (.slice (some ⟨g, 0, none⟩) n n) ∧ B ≤ g ∧ W.heap[g]? = some (.cells (r.map u32V).toArray 22)
theorem RowsL.nil (W : World) (B n : Nat) : RowsL W B n [] [] := ⟨rfl, fun j x hj => by simp at hj⟩
theorem RowsL.kept {W W' : World} {B n : Nat} {rows : List (List Nat)} {vs : List Value} (h : RowsL W B n rows vs) (hk : ∀ (g : Nat) (c : Array Value), B ≤ g → W.heap[g]? = some (.cells c 22) → W'.heap[g]? = W.heap[g]?) : RowsL W' B n rows vs :=
  ⟨h.1, fun j x hj => by obtain ⟨g, h1, h2, h3⟩ := h.2 j x hj; exact ⟨g, h1, h2, (hk g _ h2 h3).trans h3⟩⟩
theorem RowsL.snoc {W : World} {B n : Nat} {rows : List (List Nat)} {vs : List Value} (h : RowsL W B n rows vs) (r : List Nat) (g : Nat) (hB : B ≤ g) (hg : W.heap[g]? = some (.cells (r.map u32V).toArray 22)) :
    RowsL W B n (rows ++ [r]) (vs ++ [.slice (some ⟨g, 0, none⟩) n n]) := by
  refine ⟨by simp [h.1], fun j y hj => ?_⟩
  rcases Nat.lt_trichotomy j rows.length with hlt | rfl | hgt
  · rw [List.getElem?_append_left hlt] at hj
    obtain ⟨g', h1, h2, h3⟩ := h.2 j y hj
    exact ⟨g', by rw [List.getElem?_append_left (by rw [h.1]; exact hlt)]; exact h1, h2, h3⟩
  · rw [List.getElem?_append_right (Nat.le_refl _)] at hj
    simp at hj
    subst hj
    exact ⟨g, by rw [← h.1, List.getElem?_append_right (Nat.le_refl _)]; simp, hB, hg⟩
  · rw [List.getElem?_append_right (by omega)] at hj
    have : j - rows.length ≠ 0 := by omega
    obtain ⟨m, hm⟩ := Nat.exists_eq_succ_of_ne_zero this
    rw [hm] at hj
    simp at hj
theorem RowsL.rows {W : World} {B n : Nat} {rows : List (List Nat)} {vs : List Value} (h : RowsL W B n rows vs) (hn : n ≤ maxLen) (hl : ∀ r ∈ rows, r.length = n) {base e : Nat} {v : Value} (ho : W.owns base e 1 v vs.length vs) :
    W.rows u32V W.heap.size v rows := by
  refine ⟨vs, by simp [h.1], ho.reads, fun i r hr => ?_⟩
  obtain ⟨g, h1, h2, h3⟩ := h.2 i r hr
  refine ⟨_, h1, ?_⟩
  have hlr := hl r (List.mem_of_getElem? hr)
  have := reads_block h3 (lt_of_heap h3) n (by simp [hlr]) hn
  simpa [hlr] using this
/-- The element under way: its block b, its rows. -/
def OutI (base b n : Nat) (lv : Int) (special : Bool) (rows : List (List Nat)) (W : World) : Prop :=
  ∃ sv vs, W.heap[b]? = some (.cells #[.int .i64 lv, .bool special, sv] 28) ∧ W.owns base 23 1 sv vs.length vs ∧ RowsL W base n rows vs
theorem OutI.open_ {base b n : Nat} {lv : Int} {special : Bool} {rows : List (List Nat)} {W : World} (h : OutI base b n lv special rows W) :
    ∃ a c vs, W.heap[b]? = some (.cells #[.int .i64 lv, .bool special, .slice a rows.length c] 28) ∧ W.owns base 23 1 (.slice a rows.length c) rows.length vs ∧ RowsL W base n rows vs := by
  obtain ⟨sv, vs, h1, h2, h3⟩ := h
  obtain ⟨a, c, rfl⟩ := reads_len h2.reads
  rw [h3.1] at h1 h2
  exact ⟨a, c, vs, h1, h2, h3⟩
theorem OutI.below {base b n : Nat} {lv : Int} {special : Bool} {rows : List (List Nat)} {W W' : World} (h : OutI base b n lv special rows W) (hb : Below W.heap.size W W') : OutI base b n lv special rows W' := by
  obtain ⟨sv, vs, h1, h2, h3⟩ := h
  exact ⟨sv, vs, (hb.block _ (lt_of_heap h1)).trans h1, h2.below hb, h3.kept (fun g c _ hh => hb.block g (lt_of_heap hh))⟩
/-- The next row: the block g, made since W; then the append; then the store. -/
theorem out_push {base b n : Nat} {lv : Int} {special : Bool} {rows : List (List Nat)} {W W3 W4 : World} {a : Option Addr} {c : Nat} {vs : List Value}
    (h1 : W.heap[b]? = some (.cells #[.int .i64 lv, .bool special, .slice a rows.length c] 28)) (h2 : W.owns base 23 1 (.slice a rows.length c) rows.length vs) (h3 : RowsL W base n rows vs)
    (hbb : b < base) (hbs : base ≤ W.heap.size) (hB3 : Below W.heap.size W W3) (r : List Nat) (g : Nat) (hg : W.heap.size ≤ g) (hrow : W3.heap[g]? = some (.cells (r.map u32V).toArray 22))
    {v4 : Value} (hown4 : W4.owns base 23 1 v4 (rows.length + 1) (vs ++ [.slice (some ⟨g, 0, none⟩) n n])) (hg4 : W3.grownBy W4 (Value.slice a rows.length c).ownBlock) :
    W4.heap[b]? = some (.cells #[.int .i64 lv, .bool special, .slice a rows.length c] 28) ∧ (∃ g4 c4, v4 = .slice (some ⟨g4, 0, none⟩) (rows.length + 1) c4) ∧
      OutI base b n lv special (rows ++ [r]) (W4.setCell ⟨b, 2, none⟩ v4) ∧ (∀ B0 w0, Below B0 w0 W → B0 ≤ base → B0 ≤ b → Below B0 w0 (W4.setCell ⟨b, 2, none⟩ v4)) := by
  have hown3 := h2.below hB3
  have hrows3 := h3.kept (W' := W3) (fun g c _ hh => hB3.block g (lt_of_heap hh))
  have h13 := (hB3.block _ (lt_of_heap h1)).trans h1
  have hne : ∀ k, (Value.slice a rows.length c).ownBlock = some k → base ≤ k ∧ k < W.heap.size := h2.lt
  have h14 : W4.heap[b]? = some (.cells #[.int .i64 lv, .bool special, .slice a rows.length c] 28) := (hg4.block _ (lt_of_heap h13) (fun e => by have := hne _ e.symm; omega)).trans h13
  obtain ⟨g4, c4, rfl⟩ := hown4.succ
  have hr4 : RowsL W4 base n (rows ++ [r]) (vs ++ [.slice (some ⟨g, 0, none⟩) n n]) := by
    refine ((hrows3.snoc r g (by omega) hrow).kept (W' := W4) (fun g c hg hh => hg4.block g (lt_of_heap hh) (fun e => ?_)))
    rcases hown3.2 with ⟨h, _⟩ | ⟨g', cap', cur, fz, h, _, hgg, _⟩
    · rw [h] at e; simp [Value.ownBlock] at e
    · rw [h] at e; simp [Value.ownBlock] at e
      subst e
      rw [hh] at hgg; cases hgg
  refine ⟨h14, ⟨g4, c4, rfl⟩, ⟨.slice (some ⟨g4, 0, none⟩) (rows.length + 1) c4, vs ++ [.slice (some ⟨g, 0, none⟩) n n], ?_, ?_, ?_⟩, ?_⟩
  · simp [World.setCell, Array.getElem?_modify, h14]
  · have := hown4.setCell (a := ⟨b, 2, none⟩) (by simp; omega) (.slice (some ⟨g4, 0, none⟩) (rows.length + 1) c4)
    simpa [h3.1] using this
  · exact hr4.kept (fun g' c' hg' hh => Below.heap_setCell _ _ _ _ (by simp; omega))
  · intro B0 w0 hB hb0 hbb0
    exact ((hB.trans (hB3.mono (by omega))).grown hg4 (by have := hB3.size; omega) (fun k e => by have := hne k e; omega)).setCell (by simpa using hbb0) _
theorem rows_at {base n : Nat} {rows : List (List Nat)} {W W6 : World} {v : Value} {vs : List Value} (h2 : W.owns base 23 1 v rows.length vs) (h3 : RowsL W base n rows vs) (hn : n ≤ maxLen) (hl : ∀ r ∈ rows, r.length = n) (hs : ∀ g, base ≤ g → W6.heap[g]? = W.heap[g]?) :
    W6.rows u32V W6.heap.size v rows := by
  refine (h3.kept (W' := W6) (fun g c hg _ => hs g hg)).rows hn hl (base := base) (e := 23) ?_
  rw [h3.1]
  exact h2.keptBy (fun g c fz hv _ => hs g (h2.lt _ hv).1)
/-- An element that is copied into the block of the result. -/
theorem elem_store {W : World} {b : Nat} {u0 u1 u2 v0 v1 v2 : Value} (h : W.heap[b]? = some (.cells #[u0, u1, u2] 28)) {W6 : World} (hW : W6 = ((W.setCell ⟨b, 0, none⟩ v0).setCell ⟨b, 1, none⟩ v1).setCell ⟨b, 2, none⟩ v2) :
    W6.heap[b]? = some (.cells #[v0, v1, v2] 28) ∧ (∀ g, b < g → W6.heap[g]? = W.heap[g]?) ∧ (∀ B0 w0, Below B0 w0 W → B0 ≤ b → Below B0 w0 W6) := by
  subst hW
  refine ⟨by simp [World.setCell, Array.getElem?_modify, h], fun g hg => ?_, fun B0 w0 hB hb => ((hB.setCell (by simpa using hb) _).setCell (by simpa using hb) _).setCell (by simpa using hb) _⟩
  iterate 3 rw [Below.heap_setCell _ _ _ _ (by simp; omega)]
/-! ### Weight -/
def weightRow (n q t : Nat) (here : Bool) : List Nat := if here then (2 ^ t % q) :: List.replicate (n - 1) 0 else List.replicate n 0
/-- The first k rows of a weight. -/
def weightRows (chain : List Nat) (n t d k : Nat) : List (List Nat) := (List.range k).map fun j => weightRow n (chain.getD j 0) t (j == d)
theorem weightRows_succ (chain : List Nat) (n t d k q : Nat) (h : chain[k]? = some q) : weightRows chain n t d (k + 1) = weightRows chain n t d k ++ [weightRow n q t (k == d)] := by
  unfold weightRows; rw [List.range_succ, List.map_append]; simp [List.getD_eq_getElem?_getD, h]
theorem weightRows_length (chain : List Nat) (n t d k : Nat) : (weightRows chain n t d k).length = k := by simp [weightRows]
theorem weightRow_length (n q t : Nat) (here : Bool) (hn : 1 ≤ n) : (weightRow n q t here).length = n := by
  unfold weightRow; cases here <;> simp; omega
theorem zrow_there (n q t : Nat) : ((weightRow n q t false).map u32V).toArray = zrow n := by
  unfold weightRow zrow u32V; simp
theorem zrow_set (n q t : Nat) (hn : 1 ≤ n) : (zrow n).setIfInBounds 0 (.int .u32 ((2 ^ t % q : Nat) : Int)) = ((weightRow n q t true).map u32V).toArray := by
  obtain ⟨m, rfl⟩ : ∃ m, n = m + 1 := ⟨n - 1, by omega⟩
  unfold weightRow zrow u32V
  simp [List.replicate_succ]
/-- The place of a digit. -/
theorem digit_place (width : Int) (h1 : 2 ≤ width) (h2 : width ≤ 31) (i : Nat) : ∃ P d m t : Nat, partsI width = (P : Int) ∧ 1 ≤ P ∧ P ≤ 16 ∧ (i : Int) / (P : Int) = (d : Int) ∧ (i : Int) % (P : Int) = (m : Int) ∧ width * (m : Int) = (t : Int) ∧ t ≤ 30 ∧ m < P ∧ d = i / P ∧ m = i % P := by
  have hp := parts_bound h1 h2
  obtain ⟨P, hP⟩ := Int.eq_ofNat_of_zero_le (show 0 ≤ partsI width by omega)
  obtain ⟨wn, rfl⟩ := Int.eq_ofNat_of_zero_le (show 0 ≤ width by omega)
  have hm : i % P < P := Nat.mod_lt _ (by omega)
  have hk : (P - 1) * wn ≤ 30 := by
    have h3 : (P : Int) = (31 + (wn : Int) - 1) / (wn : Int) := by rw [← hP]; rfl
    have h4 : P = (30 + wn) / wn := by
      have : (31 + (wn : Int) - 1) = ((30 + wn : Nat) : Int) := by omega
      rw [this] at h3
      exact_mod_cast h3
    have h5 := Nat.div_mul_le_self (30 + wn) wn
    rw [← h4] at h5
    rw [Nat.sub_mul]; omega
  refine ⟨P, i / P, i % P, wn * (i % P), hP, by omega, by omega, by simp, by simp, by simp, ?_, hm, rfl, rfl⟩
  have : wn * (i % P) ≤ (P - 1) * wn := by
    rw [Nat.mul_comm]; exact Nat.mul_le_mul_right _ (by omega)
  omega
/-- What 'Weight' answers. -/
def weightB (N : Int) (chain : List Nat) (sp : Nat) (width i : Int) : Bool := madeB N chain sp width && weiB chain.length width i
def WeightPost (N : Int) (chain : List Nat) (sp : Nat) (width i : Int) (w : World) (e : Ending) (w' : World) : Prop :=
  (if weightB N chain sp width i then ∃ rv, e = .returned (.tuple #[.agg #[.int .i64 (chain.length : Int), .bool false, rv], .int .i64 0]) ∧ w'.rows u32V w'.heap.size rv (weightRows chain N.toNat ((width * (i % partsI width)).toNat) ((i / partsI width).toNat) chain.length)
    else e = .returned (.tuple #[.agg #[.int .i64 0, .bool false, .slice none 0 0], .int .i64 2])) ∧ Below w.heap.size w w'
end Go.Proofs.Ytpcpgmgpkegjlaa
