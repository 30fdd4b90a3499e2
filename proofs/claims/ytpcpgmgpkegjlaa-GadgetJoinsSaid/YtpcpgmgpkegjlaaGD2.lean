/- Tables of digits in memory. -/
import Derived.Test.YtpcpgmgpkegjlaaGD1
namespace Go.Proofs.Ytpcpgmgpkegjlaa
open Go.RowKit Go.Shelf Go.BigFrame
/-- A row of a table. -/
def trow (g : Nat → Int) (n : Nat) : Array Value := ((List.range n).map fun c => Value.int .i64 (g c)).toArray
theorem trow_size (g : Nat → Int) (n : Nat) : (trow g n).size = n := by simp [trow]
theorem trow_get (g : Nat → Int) (n j : Nat) (h : j < n) : (trow g n)[j]? = some (.int .i64 (g j)) := by simp [trow, h]
theorem trow_set (g : Nat → Int) (n j : Nat) (v : Int) : (trow g n).setIfInBounds j (.int .i64 v) = trow (fun c => if c = j then v else g c) n := by
  unfold trow
  apply Array.ext
  · simp
  · intro i h1 h2
    simp only [Array.size_setIfInBounds, List.size_toArray, List.length_map, List.length_range] at h1 h2
    rw [Array.getElem_setIfInBounds (by simpa using h1)]
    by_cases e : j = i
    · subst e; simp
    · rw [if_neg e]; simp [show ¬ i = j from fun h => e h.symm]
def TabAt (W : World) (H n R : Nat) (f : Nat → Nat → Int) : Prop := ∀ r, r < R → W.heap[H + r]? = some (.cells (trow (f r) n) 2)
theorem TabAt.keep {W W' : World} {H n R : Nat} {f : Nat → Nat → Int} (h : TabAt W H n R f) (hk : ∀ b, H ≤ b → b < H + R → W'.heap[b]? = W.heap[b]?) : TabAt W' H n R f := fun r hr => (hk (H + r) (by omega) (by omega)).trans (h r hr)
theorem TabAt.set {W : World} {H n R : Nat} {f : Nat → Nat → Int} (h : TabAt W H n R f) (r j : Nat) (hr : r < R) (v : Int) :
    TabAt (W.setCell ⟨H + r, j, none⟩ (.int .i64 v)) H n R (fun r' c => if r' = r ∧ c = j then v else f r' c) := by
  intro r' hr'
  by_cases e : r' = r
  · subst e
    simp [World.setCell, Array.getElem?_modify, h r' hr', trow_set]
  · rw [Below.heap_setCell _ _ _ _ (by simp; omega), h r' hr']
    simp [e]
theorem TabAt.cell {W : World} {H n R : Nat} {f : Nat → Nat → Int} (h : TabAt W H n R f) (r j : Nat) (hr : r < R) (hj : j < n) : W.cell? ⟨H + r, j, none⟩ = some (.int .i64 (f r j)) := by
  simp [World.cell?, h r hr, trow_get _ _ _ hj]
theorem TabAt.frozen {W : World} {H n R : Nat} {f : Nat → Nat → Int} (h : TabAt W H n R f) (r j : Nat) (hr : r < R) : W.frozen? ⟨H + r, j, none⟩ = false := by
  simp [World.frozen?, h r hr]
/-- The rows' slices, the first i of them made. -/
def ocells (H R n i : Nat) : Array Value := ((List.range R).map fun r => if r < i then Value.slice (some ⟨H + r, 0, none⟩) n n else .slice none 0 0).toArray
theorem ocells_set (H R n i : Nat) : (ocells H R n i).setIfInBounds i (.slice (some ⟨H + i, 0, none⟩) n n) = ocells H R n (i + 1) := by
  unfold ocells
  apply Array.ext
  · simp
  · intro j h1 h2
    simp only [Array.size_setIfInBounds, List.size_toArray, List.length_map, List.length_range] at h1 h2
    rw [Array.getElem_setIfInBounds (by simpa using h1)]
    by_cases e : i = j
    · subst e; simp
    · rw [if_neg e]
      by_cases e2 : j < i
      · simp [e2, show j < i + 1 by omega]
      · simp [e2, show ¬ j < i + 1 by omega]
theorem ocells_get (H R n i r : Nat) (hr : r < R) (hi : r < i) : (ocells H R n i)[r]? = some (.slice (some ⟨H + r, 0, none⟩) n n) := by simp [ocells, hr, hi]
theorem ocells_size (H R n i : Nat) : (ocells H R n i).size = R := by simp [ocells]
theorem infoI64s : (Try.prog.info? 45).map (fun i => (i.zero, i.size, i.bytes)) = some (some (.slice none 0 0), 1, 24) := by kernel_rfl
theorem make_trow (n : Nat) (hn : n ≤ 1000) (W : World) : (Instr.makeSlice 45 (.int .i64 (n : Int)) (.int .i64 (n : Int))).run Try.prog W = .ok (.slice (some ⟨W.heap.size, 0, none⟩) n n) (W.alloc (.cells (trow (fun _ => 0) n) 2)) := by
  obtain ⟨i0, hi, hz, h1, h2⟩ := info_parts infoI64
  have := run_make (P := Try.prog) W 45 2 i0 (.int .i64 0) Try.underlying45 hi hz .i64 .i64 (n : Int) (n : Int) (by omega) (by omega) (by rw [h2]; omega) (by omega)
  simp only [Int.toNat_natCast, h1] at this
  rw [this]
  have hz : madeCells (Value.int IntKind.i64 0).cells (n * 1) = trow (fun _ => 0) n := by
    unfold madeCells trow
    apply Array.ext
    · simp
    · intro i h1 h2
      have : (Value.int IntKind.i64 0).cells = #[.int .i64 0] := rfl
      simp [this, Nat.mod_one]
  rw [hz]
theorem make_rows (T : Nat) (hT : T ≤ 1000) (H n : Nat) (W : World) : (Instr.makeSlice 29 (.int .i64 (T : Int)) (.int .i64 (T : Int))).run Try.prog W = .ok (.slice (some ⟨W.heap.size, 0, none⟩) T T) (W.alloc (.cells (ocells H T n 0) 45)) := by
  obtain ⟨i0, hi, hz, h1, h2⟩ := info_parts infoI64s
  have := run_make (P := Try.prog) W 29 45 i0 (.slice none 0 0) Try.underlying29 hi hz .i64 .i64 (T : Int) (T : Int) (by omega) (by omega) (by rw [h2]; omega) (by omega)
  simp only [Int.toNat_natCast, h1] at this
  rw [this]
  have hz : madeCells (Value.slice none 0 0).cells (T * 1) = ocells H T n 0 := by
    unfold madeCells ocells
    apply Array.ext
    · simp
    · intro i h1 h2
      have : (Value.slice none 0 0).cells = #[.slice none 0 0] := rfl
      simp [this, Nat.mod_one]
  rw [hz]
theorem set_blockN {W : World} {X : Nat} {c : Array Value} {t : TypeId} {fz : Nat × Nat} (h : W.heap[X]? = some (.cells c t fz)) (j : Nat) (v : Value) : (W.setCell ⟨X, j, none⟩ v).heap[X]? = some (.cells (c.setIfInBounds j v) t fz) := by
  simp [World.setCell, Array.getElem?_modify, h]
theorem TabAt.zero {W : World} {H n : Nat} {f : Nat → Nat → Int} : TabAt W H n 0 f := fun r hr => absurd hr (by omega)
theorem TabAt.snoc {W : World} {H n i : Nat} {f : Nat → Nat → Int} (h : TabAt W H n i f) (hn : W.heap[H + i]? = some (.cells (trow (f i) n) 2)) : TabAt W H n (i + 1) f := fun r hr => by
  by_cases e : r = i
  · subst e; exact hn
  · exact h r (by omega)
/-- The balanced form of a residue. -/
def cent (q r : Nat) : Int := if q / 2 < r then (r : Int) - (q : Int) else (r : Int)
/-- The entry of the table of digits. -/
def digT (h : Int) (P : Nat) (chain : List Nat) (rows : List (List Nat)) (r c : Nat) : Int := digI h P (cent (chain.getD (r / P) 0) ((rows.getD (r / P) []).getD c 0)) (r % P)
def digL (h : Int) (P n : Nat) (chain : List Nat) (rows : List (List Nat)) (R : Nat) : List (List Int) := (List.range R).map fun r => (List.range n).map (digT h P chain rows r)
theorem digT_at (h : Int) (P : Nat) (chain : List Nat) (rows : List (List Nat)) (i k c : Nat) (hk : k < P) : digT h P chain rows (i * P + k) c = digI h P (cent (chain.getD i 0) ((rows.getD i []).getD c 0)) k := by
  unfold digT
  rw [show (i * P + k) / P = i by rw [Nat.mul_comm, Nat.mul_add_div (by omega), Nat.div_eq_of_lt hk]; rfl, show (i * P + k) % P = k by rw [Nat.mul_comm, Nat.mul_add_mod, Nat.mod_eq_of_lt hk]]
theorem cent_bound (q r : Nat) (hq : q ≤ 2147483647) (hr : r < q) : -2147483648 ≤ cent q r ∧ cent q r ≤ 2147483648 := by
  unfold cent; split <;> omega
/-- A table in memory is read as a slice of slices. -/
theorem TabAt.rows {W : World} {H n R ob : Nat} {f : Nat → Nat → Int} {i : Nat} (h : TabAt W H n R f) (hn : n ≤ maxLen) (hR : R ≤ maxLen) (ho : W.heap[ob]? = some (.cells (ocells H R n i) 45)) (hi : R ≤ i) :
    W.rows i64V W.heap.size (.slice (some ⟨ob, 0, none⟩) R R) ((List.range R).map fun r => (List.range n).map (f r)) := by
  refine ⟨(ocells H R n i).toList, by simp [ocells], ?_, fun r row hr => ?_⟩
  · have := reads_block (l := (ocells H R n i).toList) (by simpa using ho) (lt_of_heap ho) R (by simp [ocells]) hR
    simpa [ocells] using this
  · rw [List.getElem?_map] at hr
    obtain ⟨x, hx, rfl⟩ := Option.map_eq_some_iff.1 hr
    have hrR : r < R := by
      have := (List.getElem?_eq_some_iff.1 hx).1
      simpa using this
    rw [List.getElem?_range hrR] at hx
    cases hx
    refine ⟨_, by have := ocells_get H R n i r hrR (by omega); simpa using this, ?_⟩
    have h3 := h r hrR
    have := reads_block (l := (List.range n).map (fun c => Value.int .i64 (f r c))) h3 (lt_of_heap h3) n (by simp) hn
    simpa [i64V, Function.comp_def] using this
/-- The table, as far as it is filled, and what lay when it was made. -/
def DigI (H n T : Nat) (Tf : Nat → Nat → Int) (wf : World) (done : Nat → Nat → Prop) (W : World) : Prop :=
  (∃ f, TabAt W H n T f ∧ ∀ r c, r < T → c < n → done r c → f r c = Tf r c) ∧ Below H wf W ∧ H + T ≤ W.heap.size
theorem DigI.below {H n T : Nat} {Tf : Nat → Nat → Int} {wf : World} {done : Nat → Nat → Prop} {W W' : World} (h : DigI H n T Tf wf done W) (hb : Below (H + T) W W') : DigI H n T Tf wf done W' := by
  obtain ⟨⟨f, h1, h2⟩, h3, h4⟩ := h
  exact ⟨⟨f, h1.keep (fun b _ hb2 => hb.block b hb2), h2⟩, h3.trans (hb.mono (by omega)), by have := hb.size; omega⟩
theorem DigI.imp {H n T : Nat} {Tf : Nat → Nat → Int} {wf : World} {done done' : Nat → Nat → Prop} {W : World} (h : DigI H n T Tf wf done W) (hi : ∀ r c, r < T → c < n → done' r c → done r c) : DigI H n T Tf wf done' W := by
  obtain ⟨⟨f, h1, h2⟩, h3, h4⟩ := h
  exact ⟨⟨f, h1, fun r c a b d => h2 r c a b (hi r c a b d)⟩, h3, h4⟩
theorem DigI.set {H n T : Nat} {Tf : Nat → Nat → Int} {wf : World} {done done' : Nat → Nat → Prop} {W : World} (h : DigI H n T Tf wf done W) (r0 j : Nat) (hr : r0 < T) (v : Int) (hv : v = Tf r0 j) (hi : ∀ r c, r < T → c < n → done' r c → done r c ∨ (r = r0 ∧ c = j)) :
    DigI H n T Tf wf done' (W.setCell ⟨H + r0, j, none⟩ (.int .i64 v)) := by
  obtain ⟨⟨f, h1, h2⟩, h3, h4⟩ := h
  refine ⟨⟨_, h1.set r0 j hr v, fun r c a b d => ?_⟩, h3.setCell (by simp) _, by simpa using h4⟩
  by_cases e : r = r0 ∧ c = j
  · rw [if_pos e, hv, e.1, e.2]
  · rw [if_neg e]
    exact h2 r c a b ((hi r c a b d).resolve_right e)
theorem DigI.grown {H n T : Nat} {Tf : Nat → Nat → Int} {wf : World} {done : Nat → Nat → Prop} {W W' : World} {row : Option Nat} (h : DigI H n T Tf wf done W) (hg : W.grownBy W' row) (hr : ∀ r, row = some r → H + T ≤ r) : DigI H n T Tf wf done W' := by
  refine h.below ?_
  exact (Below.refl _ W).grown hg h.2.2 hr
/-- What holds between the rounds over the digits of one residue. -/
def DigR (H n T : Nat) (Tf : Nat → Nat → Int) (wf : World) (iP P j X : Nat) (w5 : World) (k : Nat) (W : World) : Prop :=
  DigI H n T Tf wf (fun r c => r < iP ∨ (r < iP + P ∧ c < j) ∨ (r < iP + k ∧ c = j)) W ∧ KeepP (fun b => b < w5.heap.size ∧ H + T ≤ b ∧ b ≠ X) w5 W ∧ w5.heap.size ≤ W.heap.size
theorem DigR.own {H n T : Nat} {Tf : Nat → Nat → Int} {wf : World} {iP P j X : Nat} {w5 : World} (hX : H + T ≤ X) (h5 : H + T ≤ w5.heap.size) : RoundsI w5.heap.size X (DigR H n T Tf wf iP P j X w5) := by
  refine ⟨?_, ?_⟩
  · rintro k W W' row ⟨h1, h2, h3⟩ hg hr
    exact ⟨h1.grown hg (fun r e => by have := (hr r e).1; omega), h2.grown hg (fun b hb => by omega) (fun r e hb => by have := (hr r e).1; omega), Nat.le_trans h3 hg.size⟩
  · rintro k W v ⟨h1, h2, h3⟩
    exact ⟨h1.below ((Below.refl _ _).setCell hX v), h2.setCell (fun h => h.2.2 rfl) v, by simpa using h3⟩
theorem wpIn_hideThen {F : Fence} {n : Nat} {P : Program} {c : Code} {K : Act → World → Prop} {Q : Exit → Act → World → Prop} {a : Act} {w : World} (h : ∀ K', (∀ a w, K a w → K' a w) → c.wpIn F n P (Exit.then K' Q) a w) : c.wpIn F n P (Exit.then K Q) a w := h K (fun _ _ h => h)
/-! ### The marks that loops over iterators leave -/
def mark (D : Nat) : Deferred := { target := .collected D, args := #[] }
def Marks (B : Nat) (ds : List Deferred) (W : World) : Prop := ∃ Ds : List Nat, ds = Ds.map mark ∧ Ds.Nodup ∧ ∀ D ∈ Ds, B ≤ D ∧ W.heap[D]? = some (.deferred (some []))
theorem Marks.nil (B : Nat) (W : World) : Marks B [] W := ⟨[], rfl, List.nodup_nil, fun D h => by cases h⟩
theorem Marks.keep {B : Nat} {ds : List Deferred} {W W' : World} (h : Marks B ds W) (hk : ∀ D, B ≤ D → W.heap[D]? = some (.deferred (some [])) → W'.heap[D]? = some (.deferred (some []))) : Marks B ds W' := by
  obtain ⟨Ds, h1, h2, h3⟩ := h
  exact ⟨Ds, h1, h2, fun D hD => ⟨(h3 D hD).1, hk D (h3 D hD).1 (h3 D hD).2⟩⟩
theorem Marks.cons {B : Nat} {ds : List Deferred} {W W' : World} (h : Marks B ds W) (hk : ∀ D, B ≤ D → W.heap[D]? = some (.deferred (some [])) → W'.heap[D]? = some (.deferred (some []))) (D : Nat) (hD : W.heap.size ≤ D) (hB : B ≤ W.heap.size) (hd : W'.heap[D]? = some (.deferred (some []))) : Marks B (mark D :: ds) W' := by
  obtain ⟨Ds, h1, h2, h3⟩ := h
  refine ⟨D :: Ds, by rw [h1]; rfl, List.nodup_cons.2 ⟨fun hm => ?_, h2⟩, fun E hE => ?_⟩
  · have := lt_of_heap (h3 D hm).2
    omega
  · rcases List.mem_cons.1 hE with rfl | hE
    · exact ⟨by omega, hd⟩
    · exact ⟨(h3 E hE).1, hk E (h3 E hE).1 (h3 E hE).2⟩
theorem leaves_marks {F : Fence} {n : Nat} {P : Program} {fn : Func} {tmps : Array Value} {R : Ending → World → Prop} {B : Nat} : ∀ (ds : List Deferred) (W : World), Marks B ds W → B ≤ W.heap.size →
    (∀ W', Below B W W' → LeavesInM F n P fn tmps R [] .returning W') → LeavesInM F n P fn tmps R ds .returning W := by
  intro ds
  induction ds with
  | nil => intro W _ _ h; exact h W (Below.refl _ _)
  | cons d ds ih =>
    rintro W ⟨Ds, h1, h2, h3⟩ hB h
    cases Ds with
    | nil => cases h1
    | cons D Ds =>
      injection h1 with e1 e2
      subst e1
      obtain ⟨n1, n2⟩ := List.nodup_cons.1 h2
      obtain ⟨hDB, hD⟩ := h3 D (by simp)
      have hb : Below B W (W.putObj D (.deferred none)) := (Below.refl B W).grown (grownBy_putObj' W D _) hB (fun k e => by cases e; omega)
      refine ⟨by simp, .inl ⟨D, _, rfl, run_takeDeferred hD, ih _ ⟨Ds, e2, n2, fun E hE => ?_⟩ (by have := hb.size; omega) (fun W' hW' => h W' (hb.trans hW'))⟩⟩
      have hne : E ≠ D := fun e => n1 (e ▸ hE)
      exact ⟨(h3 E (by simp [hE])).1, (World.putObj_heap_other hne).trans (h3 E (by simp [hE])).2⟩
end Go.Proofs.Ytpcpgmgpkegjlaa
