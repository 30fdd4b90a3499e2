/- Walks: an element whose rows a function fills. -/
import Derived.Test.YtpcpgmgpkegjlaaGA6
namespace Go.Proofs.Ytpcpgmgpkegjlaa
open Go.RowKit Go.Shelf Go.BigFrame
attribute [local go_sem] Oper.semAt_some
/-- A row of zeros. -/
def zrow (n : Nat) : Array Value := (List.replicate n (Value.int .u32 0)).toArray
theorem zrow_size (n : Nat) : (zrow n).size = n := by simp [zrow]
theorem infoU32 : (Try.prog.info? 22).map (fun i => (i.zero, i.size, i.bytes)) = some (some (.int .u32 0), 1, 4) := by kernel_rfl
theorem infoRow : (Try.prog.info? 23).map (fun i => (i.zero, i.size, i.bytes)) = some (some (.slice none 0 0), 1, 24) := by kernel_rfl
theorem make_u32 (n : Nat) (hn : n ≤ 1000) (W : World) : (Instr.makeSlice 23 (.int .i64 (n : Int)) (.int .i64 (n : Int))).run Try.prog W = .ok (.slice (some ⟨W.heap.size, 0, none⟩) n n) (W.alloc (.cells (zrow n) 22)) := by
  obtain ⟨i0, hi, hz, h1, h2⟩ := info_parts infoU32
  have := run_make (P := Try.prog) W 23 22 i0 (.int .u32 0) Try.underlying23 hi hz .i64 .i64 (n : Int) (n : Int) (by omega) (by omega) (by rw [h2]; omega) (by omega)
  simp only [Int.toNat_natCast, h1] at this
  rw [this]
  have hz : madeCells (Value.int IntKind.u32 0).cells (n * 1) = zrow n := by
    unfold madeCells zrow
    apply Array.ext
    · simp
    · intro i h1 h2
      have : (Value.int IntKind.u32 0).cells = #[.int .u32 0] := rfl
      simp [this, Nat.mod_one]
  rw [hz]
/-- What a function that fills a row does. -/
def Fills {k : Nat} (F : FuncId) (caps : Array Value) (n : Nat) (encs : Fin k → Array Value) (rowOf : Fin k → List Nat) (w : World) : Prop :=
  ∀ (x : Fin k) (g : Nat) (W : World), Below w.heap.size w W → w.heap.size ≤ g → W.heap[g]? = some (.cells (zrow n) 22) →
    Calls Try.prog F (encs x ++ #[.slice (some ⟨g, 0, none⟩) n n] ++ caps) W fun e W' => e = .returned (.tuple #[]) ∧ W'.heap[g]? = some (.cells ((rowOf x).map u32V).toArray 22) ∧ W.grownBy W' (some g)
/-- The rows made so far. -/
def RowsAre {k : Nat} (W : World) (B n : Nat) (rowOf : Fin k → List Nat) (pre : List (Fin k)) (vs : List Value) : Prop :=
  vs.length = pre.length ∧ ∀ (j : Nat) (x : Fin k), pre[j]? = some x → ∃ g, vs[j]? = some (.slice (some ⟨g, 0, none⟩) n n) ∧ B ≤ g ∧ W.heap[g]? = some (.cells ((rowOf x).map u32V).toArray 22)
theorem RowsAre.kept {k : Nat} {W W' : World} {B n : Nat} {rowOf : Fin k → List Nat} {pre : List (Fin k)} {vs : List Value} (h : RowsAre W B n rowOf pre vs) (hk : ∀ (g : Nat) (c : Array Value), B ≤ g → W.heap[g]? = some (.cells c 22) → W'.heap[g]? = W.heap[g]?) : RowsAre W' B n rowOf pre vs :=
  ⟨h.1, fun j x hj => by obtain ⟨g, h1, h2, h3⟩ := h.2 j x hj; exact ⟨g, h1, h2, (hk g _ h2 h3).trans h3⟩⟩
theorem RowsAre.snoc {k : Nat} {W : World} {B n : Nat} {rowOf : Fin k → List Nat} {pre : List (Fin k)} {vs : List Value} (h : RowsAre W B n rowOf pre vs) (x : Fin k) (g : Nat) (hB : B ≤ g) (hg : W.heap[g]? = some (.cells ((rowOf x).map u32V).toArray 22)) :
    RowsAre W B n rowOf (pre ++ [x]) (vs ++ [.slice (some ⟨g, 0, none⟩) n n]) := by
  refine ⟨by simp [h.1], fun j y hj => ?_⟩
  rcases Nat.lt_trichotomy j pre.length with hlt | rfl | hgt
  · rw [List.getElem?_append_left hlt] at hj
    obtain ⟨g', h1, h2, h3⟩ := h.2 j y hj
    exact ⟨g', by rw [List.getElem?_append_left (by rw [h.1]; exact hlt)]; exact h1, h2, h3⟩
  · rw [List.getElem?_append_right (Nat.le_refl _)] at hj
    simp at hj
    subst hj
    exact ⟨g, by rw [← h.1, List.getElem?_append_right (Nat.le_refl _)]; simp, hB, hg⟩
  · rw [List.getElem?_append_right (by omega)] at hj
    have : j - pre.length ≠ 0 := by omega
    obtain ⟨m, hm⟩ := Nat.exists_eq_succ_of_ne_zero this
    rw [hm] at hj
    simp at hj
theorem RowsAre.nil {k : Nat} (W : World) (B n : Nat) (rowOf : Fin k → List Nat) : RowsAre W B n rowOf [] [] := ⟨rfl, fun j x hj => by simp at hj⟩
theorem RowsAre.rows {k : Nat} {W : World} {B n : Nat} {rowOf : Fin k → List Nat} {pre : List (Fin k)} {vs : List Value} (h : RowsAre W B n rowOf pre vs) (hn : n ≤ maxLen) (hl : ∀ x, (rowOf x).length = n) {base e : Nat} {v : Value} (ho : W.owns base e 1 v vs.length vs) :
    W.rows u32V W.heap.size v (pre.map rowOf) := by
  refine ⟨vs, by simp [h.1], ho.reads, fun i r hr => ?_⟩
  rw [List.getElem?_map] at hr
  obtain ⟨x, hx, rfl⟩ := Option.map_eq_some_iff.1 hr
  obtain ⟨g, h1, h2, h3⟩ := h.2 i x hx
  refine ⟨_, h1, ?_⟩
  have := reads_block h3 (lt_of_heap h3) n (by simp [hl]) hn
  simpa [hl] using this
/-- The state of the loop. -/
def EachI {k : Nat} (w W2 : World) (S : Nat → Prop) (b n : Nat) (lv : Int) (special : Bool) (rowOf : Fin k → List Nat) (pre : List (Fin k)) (W : World) : Prop :=
  (∃ sv vs, W.heap[b]? = some (.cells #[.int .i64 lv, .bool special, sv] 28) ∧ W.owns W2.heap.size 23 1 sv vs.length vs ∧ RowsAre W W2.heap.size n rowOf pre vs) ∧ KeepP S W2 W ∧ Below w.heap.size w W ∧ W2.heap.size ≤ W.heap.size
theorem eachI_own {k : Nat} (w W2 : World) (S : Nat → Prop) (hS : ∀ b, S b → b < W2.heap.size) (hw : w.heap.size ≤ W2.heap.size) (b n : Nat) (lv : Int) (special : Bool) (rowOf : Fin k → List Nat) : OwnFrom W2.heap.size (EachI w W2 S b n lv special rowOf) := by
  rintro pre W W' row ⟨⟨sv, vs, h1, h2, h3⟩, h4, h5, h6⟩ hg hr
  have hc : ∀ (g : Nat) (c : Array Value) (t : TypeId) (fz : Nat × Nat), W.heap[g]? = some (.cells c t fz) → W'.heap[g]? = W.heap[g]? := fun g c t fz h => grownBy_keeps_cells hg (fun r e => (hr r e).2) h rfl
  exact ⟨⟨sv, vs, (hc _ _ _ _ h1).trans h1, h2.keptBy (fun g c fz _ h => hc g c _ fz h), h3.kept (fun g c _ h => hc g c _ _ h)⟩, h4.grown hg (fun b hb => Nat.lt_of_lt_of_le (hS b hb) h6) (fun r e hb => by have := (hr r e).1; have := hS _ hb; omega),
    h5.grown hg h5.size (fun r e => by have := (hr r e).1; omega), Nat.le_trans h6 hg.size⟩
/-- Rows in blocks that were made since w: they are read in every world that keeps those blocks. -/
def FreshRows (w w' : World) (rv : Value) (rows : List (List Nat)) : Prop := ∀ W' : World, (∀ g, w.heap.size ≤ g → W'.heap[g]? = w'.heap[g]?) → W'.rows u32V W'.heap.size rv rows
theorem FreshRows.now {w w' : World} {rv : Value} {rows : List (List Nat)} (h : FreshRows w w' rv rows) : w'.rows u32V w'.heap.size rv rows := h w' (fun _ _ => rfl)
set_option maxRecDepth 100000 in
set_option maxHeartbeats 8000000 in
theorem each_any (n : Nat) (hn : n ≤ 1000) (pr pw wt er : Int) (cv : Value) (chain : List Nat) (sp lv : Nat) (special : Bool) (p : Nat) (w : World) (hlv : lv ≤ chain.length) (hc24 : chain.length ≤ 24) (hl1 : 1 ≤ lv) (hmb : ∀ x, modAt (modl chain sp lv special) x < 4294967296) (hr : w.reads w.heap.size cv (chain.map u32V))
    (hp : w.heap[p]? = some (.cells #[.int .i64 (n : Int), .int .u32 pr, .int .i64 pw, cv, .int .u32 (sp : Int), .int .i64 wt, .int .u32 er] 25))
    (F : FuncId) (caps : Array Value) (rowOf : Fin (modl chain sp lv special).length → List Nat) (hrl : ∀ x, (rowOf x).length = n)
    (hF : Fills F caps n (fun x => #[.int .i64 (x.val : Int), .int .u64 (modAt (modl chain sp lv special) x : Int)]) rowOf w)
    (heF : ∀ args W, (callFunc F args).run Try.prog W = .ok (.enter F args) W) :
    Calls Try.prog 60 #[.pointer (some ⟨p, 0, none⟩), .int .i64 (lv : Int), .bool special, .func (.func F) #[] caps] w
      fun e w' => (∃ rv, e = .returned (.agg #[.int .i64 (lv : Int), .bool special, rv]) ∧ FreshRows w w' rv ((List.finRange _).map rowOf)) ∧ Below w.heap.size w w' := by
  have hpl := lt_of_heap hp
  have hmk := make_u32 n hn
  have HMB := Lib.hid hmb
  have HHF := Lib.hid hF
  have HEF := Lib.hid heF
  have HP := Lib.hid hp
  have HR := Lib.hid hr
  clear hF heF hp hr hmb
  refine (callsIn_wide (n := 5)).1 ?_
  refine callsIn_of_wp_marks Try.func60 rfl trivial ?_ rfl
  simp only [Try.ntmps60, List.size_toArray, List.length_cons, List.length_nil, Nat.reduceAdd, Nat.reduceSub, Array.replicate_succ, Array.replicate_zero, List.push_toArray, List.append_toArray, List.nil_append, List.cons_append]
  gi_wp2_with fail
  refine ⟨trivial, (moduli_in _ _ _ _ _).mono ?_⟩
  rintro e w2 ⟨rfl, rfl⟩
  gi_wp2_with fail
  obtain ⟨W2, hW2⟩ : ∃ W2, W2 = (((((((w.alloc (.cells #[.pointer (some ⟨p, 0, none⟩)] 55)).alloc (.cells #[.func (.func F) #[] caps] 92)).alloc (.cells #[.int .i64 0, .bool false, .slice none 0 0] 28)).alloc (.cells #[.int .i64 (lv : Int), .bool special, .slice none 0 0] 28)).alloc (.cells #[.pointer (some ⟨p, 0, none⟩)] 55)).alloc (.cells #[.int .i64 (lv : Int)] 3)).alloc (.cells #[.bool special] 4)) := ⟨_, rfl⟩
  have hz2 : W2.heap.size = w.heap.size + 7 := by rw [hW2]; simp
  have hB2 : Below w.heap.size w W2 := by
    rw [hW2]; exact ((((((((Below.refl _ w).alloc (Nat.le_refl _) _).alloc (by simp) _).alloc (by simp; omega) _).alloc (by simp; omega) _).alloc (by simp; omega) _).alloc (by simp; omega) _).alloc (by simp; omega) _)
  have l0 : W2.heap[w.heap.size]? = some (.cells #[.pointer (some ⟨p, 0, none⟩)] 55) := by rw [hW2]; repeat (first | (refine alloc_last _ _ ?_; simp only [World.size_alloc]; done) | (rw [Below.heap_alloc]; rotate_left; (simp only [World.size_alloc]; omega)))
  have l1 : W2.heap[w.heap.size + 1]? = some (.cells #[.func (.func F) #[] caps] 92) := by rw [hW2]; repeat (first | (refine alloc_last _ _ ?_; simp only [World.size_alloc]; done) | (rw [Below.heap_alloc]; rotate_left; (simp only [World.size_alloc]; omega)))
  have l2 : W2.heap[w.heap.size + 1 + 1]? = some (.cells #[.int .i64 0, .bool false, .slice none 0 0] 28) := by rw [hW2]; repeat (first | (refine alloc_last _ _ ?_; simp only [World.size_alloc]; done) | (rw [Below.heap_alloc]; rotate_left; (simp only [World.size_alloc]; omega)))
  have l3 : W2.heap[w.heap.size + 1 + 1 + 1]? = some (.cells #[.int .i64 (lv : Int), .bool special, .slice none 0 0] 28) := by rw [hW2]; repeat (first | (refine alloc_last _ _ ?_; simp only [World.size_alloc]; done) | (rw [Below.heap_alloc]; rotate_left; (simp only [World.size_alloc]; omega)))
  have l4 : W2.heap[w.heap.size + 1 + 1 + 1 + 1]? = some (.cells #[.pointer (some ⟨p, 0, none⟩)] 55) := by rw [hW2]; repeat (first | (refine alloc_last _ _ ?_; simp only [World.size_alloc]; done) | (rw [Below.heap_alloc]; rotate_left; (simp only [World.size_alloc]; omega)))
  have l5 : W2.heap[w.heap.size + 1 + 1 + 1 + 1 + 1]? = some (.cells #[.int .i64 (lv : Int)] 3) := by rw [hW2]; repeat (first | (refine alloc_last _ _ ?_; simp only [World.size_alloc]; done) | (rw [Below.heap_alloc]; rotate_left; (simp only [World.size_alloc]; omega)))
  have l6 : W2.heap[w.heap.size + 1 + 1 + 1 + 1 + 2]? = some (.cells #[.bool special] 4) := by rw [hW2]; repeat (first | (refine alloc_last _ _ ?_; simp only [World.size_alloc]; done) | (rw [Below.heap_alloc]; rotate_left; (simp only [World.size_alloc]; omega)))
  rw [← hW2]
  clear hW2
  have hp2 := (hB2.block p hpl).trans HP.out
  have hr2 := HR.out.below hB2
  have hSC := HR.out.blk (by simp; omega)
  obtain ⟨i0, hi0, hz0, hz1, hzb⟩ := info_parts infoRow
  have hS : ∀ b, (b < W2.heap.size ∧ b ≠ w.heap.size + 1 + 1 + 1) → b < W2.heap.size := fun _ h => h.1
  have hml : (modl chain sp lv special).length ≤ 25 := by rw [modl_length _ _ _ _ hlv]; cases special <;> simp <;> omega
  refine wpIn_range_tmp (n := 5) (by omega) rfl (enters_of Try.func58 (by kernel_rfl) rfl) (S := fun b => b < W2.heap.size ∧ b ≠ w.heap.size + 1 + 1 + 1) (w := W2) hS
    (moduli_stops 4 (by omega) (w.heap.size + 1 + 1 + 1 + 1) p (fun b => b < W2.heap.size ∧ b ≠ w.heap.size + 1 + 1 + 1) (n : Int) pr pw wt er cv chain sp lv special w.heap.size hlv (by omega) W2 hS ⟨by omega, by omega⟩ ⟨by omega, by omega⟩ ⟨by omega, by omega⟩ ⟨by omega, by omega⟩
      (fun a n c b off h1 h2 => by have := hSC a n c b off h1 h2; omega) l4 l5 l6 hp2 hr2) (fun _ => rfl)
    (EachI w W2 (fun b => b < W2.heap.size ∧ b ≠ w.heap.size + 1 + 1 + 1) (w.heap.size + 1 + 1 + 1) n (lv : Int) special rowOf)
    (fun _ _ => False) (eachI_own w W2 _ hS hB2.size _ _ _ _ _) (fun _ _ _ _ h _ _ => h)
    ⟨⟨_, [], l3, World.owns_nil _ _ _ _, RowsAre.nil _ _ _ _⟩, KeepP.refl _, hB2, Nat.le_refl _⟩
    (fun x => [(20, .int .i64 (x.val : Int)), (21, .int .u32 (modAt (modl chain sp lv special) x : Int)), (10, .int .i64 (x.val : Int)), (11, .int .u32 (modAt (modl chain sp lv special) x : Int))])
    ?assign ?body ?done ?stop
  case assign =>
    intro l pre x W K hK
    unfold ModEnc
    gi_wp2
  case stop =>
    intro D pre W hD hpre hI hdf
    exact hI.elim
  case done =>
    rintro D W hD ⟨⟨sv, vs, h1, h2, h3⟩, hk, hB, hsz⟩ hdf
    have hlt := lt_of_heap h1
    have e0 : W.cell? ⟨w.heap.size + 1 + 1 + 1, 0, none⟩ = some (.int .i64 (lv : Int)) := by simp [World.cell?, h1]
    have e1 : W.cell? ⟨w.heap.size + 1 + 1 + 1, 1, none⟩ = some (.bool special) := by simp [World.cell?, h1]
    have e2 : W.cell? ⟨w.heap.size + 1 + 1 + 1, 2, none⟩ = some sv := by simp [World.cell?, h1]
    have h4 := (hk (w.heap.size + 1 + 1) ⟨by omega, by omega⟩).trans l2
    have f0 : W.cell? ⟨w.heap.size + 1 + 1, 0, none⟩ = some (.int .i64 0) := by simp [World.cell?, h4]
    have f1 : W.cell? ⟨w.heap.size + 1 + 1, 1, none⟩ = some (.bool false) := by simp [World.cell?, h4]
    have f2 : W.cell? ⟨w.heap.size + 1 + 1, 2, none⟩ = some (.slice none 0 0) := by simp [World.cell?, h4]
    have g0 : W.frozen? ⟨w.heap.size + 1 + 1, 0, none⟩ = false := by simp [World.frozen?, h4]
    have g1 : W.frozen? ⟨w.heap.size + 1 + 1, 1, none⟩ = false := by simp [World.frozen?, h4]
    have g2 : W.frozen? ⟨w.heap.size + 1 + 1, 2, none⟩ = false := by simp [World.frozen?, h4]
    obtain ⟨sa, scap, rfl⟩ := reads_len h2.reads
    gi_wp2
    have hDne : w.heap.size + 1 + 1 ≠ D := by omega
    obtain ⟨W5, hW5⟩ : ∃ W5, W5 = (((W.setCell ⟨w.heap.size + 1 + 1, 0, none⟩ (.int .i64 (lv : Int))).setCell ⟨w.heap.size + 1 + 1, 1, none⟩ (.bool special)).setCell ⟨w.heap.size + 1 + 1, 2, none⟩ (.slice sa vs.length scap)) := ⟨_, rfl⟩
    have hd5 : W5.heap[D]? = some (.deferred (some [])) := by
      rw [hW5]
      iterate 3 rw [Below.heap_setCell _ _ _ _ (by simp; omega)]
      exact hdf
    have hB5 : Below w.heap.size w W5 := by
      rw [hW5]; exact ((hB.setCell (by simp; omega) _).setCell (by simp; omega) _).setCell (by simp; omega) _
    have h5' : W5.heap[w.heap.size + 1 + 1]? = some (.cells #[.int .i64 (lv : Int), .bool special, .slice sa vs.length scap] 28) := by
      rw [hW5]; simp [World.setCell, Array.getElem?_modify, h4]
    have hk5 : ∀ (g : Nat), W2.heap.size ≤ g → W5.heap[g]? = W.heap[g]? := by
      intro g hg
      rw [hW5]
      iterate 3 rw [Below.heap_setCell _ _ _ _ (by simp; omega)]
    rw [← hW5]
    clear hW5 e0 e1 e2 f0 f1 f2 g0 g1 g2
    obtain ⟨W6, hW6⟩ : ∃ W6, W6 = W5.putObj D (.deferred none) := ⟨_, rfl⟩
    have h5 : W6.heap[w.heap.size + 1 + 1]? = some (.cells #[.int .i64 (lv : Int), .bool special, .slice sa vs.length scap] 28) := by
      rw [hW6, heap_putObj_ne _ hDne]; exact h5'
    have hk6 : ∀ (g : Nat) (c : Array Value) (t : TypeId) (fz : Nat × Nat), W2.heap.size ≤ g → W.heap[g]? = some (.cells c t fz) → W6.heap[g]? = W.heap[g]? := by
      intro g c t fz hg hh
      have hgD : g ≠ D := by rintro rfl; rw [hdf] at hh; cases hh
      rw [hW6, heap_putObj_ne _ hgD]; exact hk5 g hg
    have hB6 : Below w.heap.size w W6 := by
      rw [hW6]
      exact hB5.trans (belowK_b (w := w) (Nat.le_refl _) _ D _ _ (by omega) hd5 rfl rfl)
    have c0 : W6.cell? ⟨w.heap.size + 1 + 1, 0, none⟩ = some (.int .i64 (lv : Int)) := by simp [World.cell?, h5]
    have c1 : W6.cell? ⟨w.heap.size + 1 + 1, 1, none⟩ = some (.bool special) := by simp [World.cell?, h5]
    have c2 : W6.cell? ⟨w.heap.size + 1 + 1, 2, none⟩ = some (.slice sa vs.length scap) := by simp [World.cell?, h5]
    refine postM_mark (v := .agg #[.int .i64 (lv : Int), .bool special, .slice sa vs.length scap]) hd5 ?_ rfl ?_
    · rw [← hW6]
      simp [results, Try.results60, go_sem, c0, c1, c2]
    · rw [← hW6]
      exact ⟨⟨_, rfl, fun W' hs => (h3.kept (fun g c hg hh => (hs g (by omega)).trans (hk6 g c _ _ hg hh))).rows (by unfold maxLen; omega) hrl (h2.keptBy (fun g c fz hv hh => (hs g (by have := h2.lt _ hv; omega)).trans (hk6 g c _ _ (h2.lt _ hv).1 hh)))⟩, hB6⟩
  case body =>
    rintro l pre x W hl ⟨⟨sv, vs, h1, h2, h3⟩, hk, hB, hsz⟩ hN
    simp only [List.foldl_cons, List.foldl_nil, List.setIfInBounds_toArray, List.set_cons_succ, List.set_cons_zero]
    have e2 : W.cell? ⟨w.heap.size + 1 + 1 + 1, 2, none⟩ = some sv := by simp [World.cell?, h1]
    have q0 : W.cell? ⟨w.heap.size, 0, none⟩ = some (.pointer (some ⟨p, 0, none⟩)) := by rw [hk.cell ⟨by omega, by omega⟩]; simp [World.cell?, l0]
    have q1 : W.cell? ⟨w.heap.size + 1, 0, none⟩ = some (.func (.func F) #[] caps) := by rw [hk.cell ⟨by omega, by omega⟩]; simp [World.cell?, l1]
    have q2 : W.cell? ⟨p, 0, none⟩ = some (.int .i64 (n : Int)) := by rw [hk.cell ⟨by omega, by omega⟩]; exact (par_cells hp2).1
    have s1 : w.heap.size + 1 < W.heap.size := by omega
    have s3 : w.heap.size + 1 + 1 + 1 < W.heap.size := by omega
    have hnI : (n : Int) ≤ 1000 := by omega
    obtain ⟨q, hq⟩ : ∃ q, q = modAt (modl chain sp lv special) x := ⟨_, rfl⟩
    have hqb := HMB.out x
    rw [← hq] at hqb ⊢
    have HQ := Lib.hid hq
    clear hq
    have hcf := HEF.out
    gi_wp2_with fail
    have hcall : Calls Try.prog F (#[.int .i64 (x.val : Int), .int .u64 (q : Int), .slice (some ⟨W.heap.size, 0, none⟩) n n] ++ caps) (W.alloc (.cells (zrow n) 22)) (fun e W' => e = .returned (.tuple #[]) ∧ W'.heap[W.heap.size]? = some (.cells ((rowOf x).map u32V).toArray 22) ∧ (W.alloc (.cells (zrow n) 22)).grownBy W' (some W.heap.size)) := by
      rw [HQ.out]; exact HHF.out x W.heap.size _ (hB.alloc hB.size _) hB.size (alloc_last _ _ rfl)
    refine ⟨trivial, CallsIn.inRound l ((callsIn_wide.2 hcall).mono ?_)⟩
    rintro e W3 ⟨rfl, hrow3, hg3⟩
    have hz3 := hg3.size
    simp only [World.size_alloc] at hz3
    have hold : ∀ b, b < W.heap.size → W3.heap[b]? = W.heap[b]? := fun b hb => by
      rw [hg3.block b (by simp; omega) (by simp; omega), Below.heap_alloc _ _ _ hb]
    have h13 := (hold _ s3).trans h1
    have e23 : W3.cell? ⟨w.heap.size + 1 + 1 + 1, 2, none⟩ = some sv := by simp [World.cell?, h13]
    have hown3 : W3.owns W2.heap.size 23 1 sv vs.length vs := h2.keptBy (fun g c fz _ hh => hold g (lt_of_heap hh))
    have hrows3 := h3.kept (W' := W3) (fun g c _ hh => hold g (lt_of_heap hh))
    have hvl : vs.length ≤ 25 := by have := h3.1; omega
    have hB3 : Below w.heap.size w W3 := (hB.alloc hB.size _).grown hg3 (by simp; have := hB.size; omega) (fun k e => by cases e; have := hB.size; omega)
    have hk3 : KeepP (fun b => b < W2.heap.size ∧ b ≠ w.heap.size + 1 + 1 + 1) W2 W3 := fun b hb => (hold b (by omega)).trans (hk b hb)
    have hkf : KeepsFrom W2.heap.size W W3 := ⟨by omega, fun k o _ hk _ => by rw [hold k (lt_of_heap hk)]; exact hk⟩
    clear hcall hcf hmk e2 q0 q1 q2
    gi_wp2_with (gi_at_builtin; refine wpListIn_append1 W3 rfl (.tmp 34) (.tmp 36) 26 rfl W2.heap.size 23 i0 (.slice none 0 0) 24 Try.underlying26 hi0 hz0 hz1 hzb rfl sv vs.length vs rfl hown3 (.slice (some ⟨W.heap.size, 0, none⟩) n n) W3.heap.size rfl rfl rfl (by unfold maxLen; omega) (by omega) (by omega) ?_; intro v4 W4 hown4 hg4a hg4 hz4; obtain ⟨g4, cap4, rfl⟩ := hown4.succ; have h14 : W4.heap[w.heap.size + 1 + 1 + 1]? = some (.cells #[.int .i64 (lv : Int), .bool special, sv] 28) := (hg4.block _ (by omega) (by intro e; have := hown3.lt _ e.symm; omega)).trans h13; have e24 : W4.cell? ⟨w.heap.size + 1 + 1 + 1, 2, none⟩ = some sv := (by simp [World.cell?, h14]); have f24 : W4.frozen? ⟨w.heap.size + 1 + 1 + 1, 2, none⟩ = false := (by simp only [World.frozen?, h14]; rfl))
    have hk4 : ∀ (g : Nat), g < W3.heap.size → (∀ k, sv.ownBlock = some k → g ≠ k) → W4.heap[g]? = W3.heap[g]? := fun g hg hne => hg4.block g hg (fun e => hne g e.symm rfl)
    have hown5 := hown4.setCell (a := ⟨w.heap.size + 1 + 1 + 1, 2, none⟩) (by simp; omega) (.slice (some ⟨g4, 0, none⟩) (vs.length + 1) cap4)
    have hr4 : RowsAre W4 W2.heap.size n rowOf (pre ++ [x]) (vs ++ [.slice (some ⟨W.heap.size, 0, none⟩) n n]) := by
      refine ((hrows3.snoc x W.heap.size hsz hrow3).kept (W' := W4) (fun g c hg hh => hk4 g (lt_of_heap hh) ?_))
      intro k hk e
      subst e
      rcases hown3.2 with ⟨h, _⟩ | ⟨g', cap', cur, fz, h, _, hgg, _⟩
      · rw [h] at hk; simp [Value.ownBlock] at hk
      · rw [h] at hk; simp [Value.ownBlock] at hk
        subst hk
        rw [hh] at hgg; cases hgg
    have hr5 := hr4.kept (W' := W4.setCell ⟨w.heap.size + 1 + 1 + 1, 2, none⟩ (.slice (some ⟨g4, 0, none⟩) (vs.length + 1) cap4)) (fun g c hg hh => Below.heap_setCell _ _ _ _ (by simp; omega))
    have hB4 : Below w.heap.size w W4 := hB3.grown hg4 hB3.size (fun k e => by have := hown3.lt _ e; have := hB2.size; omega)
    have hkf4 : KeepsFrom W2.heap.size W W4 := ⟨by omega, fun k o hk1 hk2 ho => by
      rw [hk4 k (by have := lt_of_heap hk2; omega) (fun k' hk' e => by
        subst e
        rcases hown3.2 with ⟨h, _⟩ | ⟨g', cap', cur, fz, h, _, hgg, _⟩
        · rw [h] at hk'; simp [Value.ownBlock] at hk'
        · rw [h] at hk'; simp [Value.ownBlock] at hk'
          subst hk'
          rw [hold _ (lt_of_heap hk2), hk2] at hgg
          injection hgg with hgg
          subst hgg
          cases ho), hold k (lt_of_heap hk2)]; exact hk2⟩
    refine ⟨keepsFrom_setCell hkf4 _ _, ?_, ⟨⟨.slice (some ⟨g4, 0, none⟩) (vs.length + 1) cap4, _, ?_, ?_, hr5⟩, ?_, hB4.setCell (by simp; omega) _, by simp; omega⟩⟩
    · refine KeepP.setCell (fun b hb => (hk4 b (by omega) (fun k hk' e => by have := hown3.lt _ hk'; omega)).trans (hold b (by omega))) (by simp) _
    · simp [World.setCell, Array.getElem?_modify, h14]
    · simpa using hown5
    · refine KeepP.setCell (fun b hb => (hk4 b (by omega) (fun k hk' e => by have := hown3.lt _ hk'; omega)).trans (hk3 b hb)) (by simp) _
end Go.Proofs.Ytpcpgmgpkegjlaa
