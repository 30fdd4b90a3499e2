/- Iterators over numbered elements: prefixes; blocks that a round keeps. -/
import Derived.Test.YtpcpgmgpkegjlaaRd
import Derived.RangeFuncNested
import Derived.RangeFuncBound
import Derived.RangeFuncCalls
import Derived.RangeFuncLeaves
import Derived.Shelf.Abstract
import Derived.Shelf.RegionOpen
import Derived.OwnWalkIn
import Derived.TacticsInMore
import Derived.LoopNIn
import Derived.LoopIn
import Derived.Sort.BigQuietIn
import Derived.Stop.RegionWithIn
import Derived.BigRegionIn
import Derived.BigFrameIn
namespace Go
open RowKit
/-- The first k numbers below N. -/
def fins (N k : Nat) : List (Fin N) := (List.finRange N).take k
theorem fins_zero (N : Nat) : fins N 0 = [] := rfl
theorem fins_succ (N k : Nat) (h : k < N) : fins N (k + 1) = fins N k ++ [⟨k, h⟩] := by
  unfold fins
  rw [List.take_add_one]
  simp [h]
theorem fins_all (N : Nat) : fins N N = List.finRange N := by unfold fins; rw [List.take_of_length_le (by simp)]
theorem fins_length (N k : Nat) (h : k ≤ N) : (fins N k).length = k := by simp [fins]; omega
theorem fins_prefix (N k : Nat) : fins N k <+: List.finRange N := List.take_prefix _ _
/-- The blocks of a set are kept. -/
def KeepP (S : Nat → Prop) (W W' : World) : Prop := ∀ b, S b → W'.heap[b]? = W.heap[b]?
theorem KeepP.refl {S : Nat → Prop} (W : World) : KeepP S W W := fun _ _ => rfl
theorem KeepP.trans {S : Nat → Prop} {A B C : World} (h : KeepP S A B) (k : KeepP S B C) : KeepP S A C := fun b hb => (k b hb).trans (h b hb)
theorem KeepP.cell {S : Nat → Prop} {W W' : World} (h : KeepP S W W') {b o : Nat} (hb : S b) : W'.cell? ⟨b, o, none⟩ = W.cell? ⟨b, o, none⟩ := World.cell?_of_block (a := ⟨b, o, none⟩) (h b hb)
theorem keepP_b {S : Nat → Prop} {B : Nat} (hS : ∀ b, S b → b < B) (W : World) (l : Nat) (o o' : Obj) (hl : B ≤ l) (h : W.heap[l]? = some o) (_ : o.isCells = false) (_ : o.isWalk = false) : KeepP S W (W.putObj l o') :=
  fun b hb => (grownBy_putObj' W l o').block b (by have := lt_of_heap h; have := hS b hb; omega) (fun e => by cases e; have := hS _ hb; omega)
theorem KeepP.below {S : Nat → Prop} {B : Nat} {W W' : World} (h : Below B W W') (hS : ∀ b, S b → b < B) : KeepP S W W' := fun b hb => h.block b (hS b hb)
theorem KeepP.alloc {S : Nat → Prop} {W W' : World} (h : KeepP S W W') (hS : ∀ b, S b → b < W'.heap.size) (o : Obj) : KeepP S W (W'.alloc o) := fun b hb => (Below.heap_alloc W' o b (hS b hb)).trans (h b hb)
theorem KeepP.setCell {S : Nat → Prop} {W W' : World} (h : KeepP S W W') {a : Addr} (ha : ¬ S a.block) (u : Value) : KeepP S W (W'.setCell a u) := fun b hb => (Below.heap_setCell W' a u b (fun e => ha (e ▸ hb))).trans (h b hb)
theorem KeepP.drewN {S : Nat → Prop} {W W' : World} (h : KeepP S W W') (n : Nat) : KeepP S W (W'.drewN n) := h
theorem KeepP.drew {S : Nat → Prop} {W W' : World} (h : KeepP S W W') : KeepP S W W'.drew := h
theorem KeepP.grown {S : Nat → Prop} {W W' W2 : World} {row : Option Nat} (h : KeepP S W W') (hg : W'.grownBy W2 row) (hS : ∀ b, S b → b < W'.heap.size) (hr : ∀ r, row = some r → ¬ S r) : KeepP S W W2 :=
  fun b hb => (hg.block b (hS b hb) (fun e => hr b e.symm hb)).trans (h b hb)
theorem KeepP.reads {S : Nat → Prop} {W W' : World} {B : Nat} {v : Value} {xs : List Value} (h : KeepP S W W') (hr : W.reads B v xs) (hS : ∀ a n c b off, v = .slice a n c → a = some ⟨b, off, none⟩ → S b) : W'.reads B v xs := by
  obtain ⟨a, cap, hv, hn, hz, hmx, hc⟩ := hr
  refine ⟨a, cap, hv, hn, hz, hmx, fun j u hj => ?_⟩
  obtain ⟨b, off, ha, hb, hcell⟩ := hc j u hj
  exact ⟨b, off, ha, hb, (h.cell (hS _ _ _ _ _ hv ha)).trans hcell⟩
theorem postM_ret {F : Fence} {n : Nat} {P : Program} {fn : Func} {R : Ending → World → Prop} {a : Act} {w : World} {v : Value} (hr : (results fn a.tmps).run P w = .ok v w) (hd : a.defers = []) (hR : R (.returned v) w) : bodyPostM F n P fn R .ret a w := by
  show LeavesInM F n P fn a.tmps R a.defers .returning w
  rw [hd]; exact ⟨v, hr, hR⟩
theorem postM_mark {F : Fence} {n : Nat} {P : Program} {fn : Func} {R : Ending → World → Prop} {a : Act} {w : World} {v : Value} {D : Nat} (hD : w.heap[D]? = some (.deferred (some [])))
    (hr : (results fn a.tmps).run P (w.putObj D (.deferred none)) = .ok v (w.putObj D (.deferred none))) (hd : a.defers = [{ target := .collected D, args := #[] }]) (hR : R (.returned v) (w.putObj D (.deferred none))) : bodyPostM F n P fn R .ret a w := by
  show LeavesInM F n P fn a.tmps R a.defers .returning w
  rw [hd]
  exact ⟨by simp, .inl ⟨_, _, rfl, run_takeDeferred hD, v, hr, hR⟩⟩
theorem heap_putObj_ne {w : World} {D b : Nat} (o : Obj) (h : b ≠ D) : (w.putObj D o).heap[b]? = w.heap[b]? := World.putObj_heap_other h
theorem keepsFrom_below {B : Nat} {W W' : World} (h : Below W.heap.size W W') : KeepsFrom B W W' := ⟨h.size, fun k o _ hk _ => by rw [h.block k (lt_of_heap hk)]; exact hk⟩
theorem keepsFrom_setCell {B : Nat} {W W' : World} (h : KeepsFrom B W W') (a : Addr) (u : Value) : KeepsFrom B W (W'.setCell a u) := h.trans ((KeepsOthers.setCell _ _ _).from B)
theorem keepsFrom_drewN {B : Nat} {W W' : World} (h : KeepsFrom B W W') (n : Nat) : KeepsFrom B W (W'.drewN n) := ⟨h.size, h.same⟩
/-- A block of cells is no walk's. -/
theorem ownFrom_cells {β : Type} (B : Nat) (p : β → World → Prop) (b : β → Nat) (c : β → Array Value) (t : TypeId) (fz : Nat × Nat) (hp : ∀ s W, p s W → W.heap[b s]? = some (.cells (c s) t fz)) (hq : ∀ s W, W.heap[b s]? = some (.cells (c s) t fz) → p s W) : OwnFrom B p :=
  fun s W W' row hs hg hr => hq s W' (by rw [grownBy_keeps_cells hg (fun r e => (hr r e).2) (hp s W hs) rfl]; exact hp s W hs)
/-- A range over an iterator of N numbered elements, whose round lays its element into a new box: one rule. -/
theorem wpIn_range_box {P : Program} {n N : Nat} {g : Operand} {ps : Array Tmp} {assign body : Code} {Q : Exit → Act → World → Prop} {a : Act} {w : World} (h1 : 1 ≤ n) {gf : Nat} {lb : Array Value} (hg : a.eval g = .func (.func gf) #[] lb)
    (eg : ∀ args w, (callFunc gf args).run P w = .ok (.enter gf args) w)
    {encs : Fin N → Array Value} {S : Nat → Prop} (hS : ∀ b, S b → b < w.heap.size) (hseq : SeqStopsK Fence.wide (n - 1) P gf lb encs (KeepP S) (fun ys => ys = List.finRange N) (fun pre => pre <+: List.finRange N) N w)
    (hps : ∀ x, (encs x).size = ps.size) (I : List (Fin N) → World → Prop) (Ix : List (Fin N) → World → Prop) (hI : OwnFrom w.heap.size I) (hIx : OwnFrom w.heap.size Ix) (h0 : I [] w)
    (sets : Fin N → Nat → List (Nat × Value)) (bx : Fin N → Obj) (hbx : ∀ x, (bx x).isCells = true)
    (hassign : ∀ (l : Nat) (pre : List (Fin N)) (x : Fin N) (W : World) (K : Act → World → Prop), I pre W → (∀ c a' W', KeepsFrom w.heap.size W W' → KeepP S W W' → I pre W' → a' = { tmps := (sets x c).foldl (fun t (p : Nat × Value) => t.setIfInBounds p.1 p.2) a.tmps, defers := [] } → W'.heap[c]? = some (bx x) → K a' W') →
      assign.wpIn (Fence.wide.inRound l) (n - 1 - 1) P (Exit.then K (fun _ _ _ => False)) { tmps := (ps.zip (encs x)).foldl (fun t (p, v) => t.setIfInBounds p v) a.tmps, defers := [] } W)
    (hbody : ∀ (l : Nat) (pre : List (Fin N)) (x : Fin N) (c : Nat) (W : World), w.heap.size ≤ l → I pre W → W.heap[c]? = some (bx x) → pre.length < N → body.wpIn (Fence.wide.inRound l) (n - 1 - 1) P (ownPostG w.heap.size (KeepP S) I (fun c pre W => c = .ret ∧ Ix pre W) (pre ++ [x]) W) { tmps := (sets x c).foldl (fun t (p : Nat × Value) => t.setIfInBounds p.1 p.2) a.tmps, defers := [] } W)
    (hdone : ∀ (D : Nat) (W : World), w.heap.size ≤ D → I (List.finRange N) W → W.heap[D]? = some (.deferred (some [])) → Q .normal { a with defers := { target := .collected D, args := #[] } :: a.defers } W)
    (hstop : ∀ (D : Nat) (pre : List (Fin N)) (W : World), w.heap.size ≤ D → pre <+: List.finRange N → Ix pre W → W.heap[D]? = some (.deferred (some [])) → Q .ret { a with defers := { target := .collected D, args := #[] } :: a.defers } W) :
    (Code.rangeFunc g ps assign body).wpIn Fence.wide n P Q a w := by
  refine wpIn_rangeFunc_ownH rfl h1 hg trivial eg hseq (fun h k => h.trans k) (keepP_b hS) (Below.refl _ _) hps I (fun c pre W => c = .ret ∧ Ix pre W) hI (fun c => (ownFrom_pure w.heap.size (fun _ => c = .ret)).and hIx) h0
    (fun x a' W => ∃ c, a' = { tmps := (sets x c).foldl (fun t (p : Nat × Value) => t.setIfInBounds p.1 p.2) a.tmps, defers := [] } ∧ W.heap[c]? = some (bx x)) ?_ ?_ ?_ ?_ ?_
  · rintro x a' _ W W' row ⟨c, h1, h2⟩ hg hr
    exact ⟨c, h1, by rw [grownBy_keeps_cells hg (fun r e => (hr r e).2) h2 (hbx x)]; exact h2⟩
  · intro l pre x W K hp hK
    exact hassign l pre x W K hp (fun c a' W' k1 k2 k3 k4 k5 => hK a' W' k1 k2 k3 ⟨c, k4, k5⟩)
  · rintro l pre x a' W hl _ hp ⟨c, rfl, hc⟩ hN
    exact hbody l pre x c W hl hp hc hN
  · rintro D xs W hD rfl hi hd
    exact hdone D W hD hi hd
  · rintro D c pre W hD hpre ⟨rfl, hi⟩ hd
    exact wpIn_ret (hstop D pre W hD hpre hi hd)
/-- The same, the element in temporaries alone. -/
theorem wpIn_range_tmp {P : Program} {n N : Nat} {g : Operand} {ps : Array Tmp} {assign body : Code} {Q : Exit → Act → World → Prop} {a : Act} {w : World} (h1 : 1 ≤ n) {gf : Nat} {lb : Array Value} (hg : a.eval g = .func (.func gf) #[] lb)
    (eg : ∀ args w, (callFunc gf args).run P w = .ok (.enter gf args) w)
    {encs : Fin N → Array Value} {S : Nat → Prop} (hS : ∀ b, S b → b < w.heap.size) (hseq : SeqStopsK Fence.wide (n - 1) P gf lb encs (KeepP S) (fun ys => ys = List.finRange N) (fun pre => pre <+: List.finRange N) N w)
    (hps : ∀ x, (encs x).size = ps.size) (I : List (Fin N) → World → Prop) (Ix : List (Fin N) → World → Prop) (hI : OwnFrom w.heap.size I) (hIx : OwnFrom w.heap.size Ix) (h0 : I [] w)
    (sets : Fin N → List (Nat × Value))
    (hassign : ∀ (l : Nat) (_ : List (Fin N)) (x : Fin N) (W : World) (K : Act → World → Prop), (∀ a', a' = { tmps := (sets x).foldl (fun t (p : Nat × Value) => t.setIfInBounds p.1 p.2) a.tmps, defers := [] } → K a' W) →
      assign.wpIn (Fence.wide.inRound l) (n - 1 - 1) P (Exit.then K (fun _ _ _ => False)) { tmps := (ps.zip (encs x)).foldl (fun t (p, v) => t.setIfInBounds p v) a.tmps, defers := [] } W)
    (hbody : ∀ (l : Nat) (pre : List (Fin N)) (x : Fin N) (W : World), w.heap.size ≤ l → I pre W → pre.length < N → body.wpIn (Fence.wide.inRound l) (n - 1 - 1) P (ownPostG w.heap.size (KeepP S) I (fun c pre W => c = .ret ∧ Ix pre W) (pre ++ [x]) W) { tmps := (sets x).foldl (fun t (p : Nat × Value) => t.setIfInBounds p.1 p.2) a.tmps, defers := [] } W)
    (hdone : ∀ (D : Nat) (W : World), w.heap.size ≤ D → I (List.finRange N) W → W.heap[D]? = some (.deferred (some [])) → Q .normal { a with defers := { target := .collected D, args := #[] } :: a.defers } W)
    (hstop : ∀ (D : Nat) (pre : List (Fin N)) (W : World), w.heap.size ≤ D → pre <+: List.finRange N → Ix pre W → W.heap[D]? = some (.deferred (some [])) → Q .ret { a with defers := { target := .collected D, args := #[] } :: a.defers } W) :
    (Code.rangeFunc g ps assign body).wpIn Fence.wide n P Q a w := by
  refine wpIn_rangeFunc_ownH rfl h1 hg trivial eg hseq (fun h k => h.trans k) (keepP_b hS) (Below.refl _ _) hps I (fun c pre W => c = .ret ∧ Ix pre W) hI (fun c => (ownFrom_pure w.heap.size (fun _ => c = .ret)).and hIx) h0
    (fun x a' _ => a' = { tmps := (sets x).foldl (fun t (p : Nat × Value) => t.setIfInBounds p.1 p.2) a.tmps, defers := [] }) ?_ ?_ ?_ ?_ ?_
  · rintro x a' _ W W' row h1 hg hr
    exact h1
  · intro l pre x W K hp hK
    exact hassign l pre x W K (fun a' k => hK a' W (KeepsFrom.refl _ _) (KeepP.refl _) hp k)
  · rintro l pre x a' W hl _ hp rfl hN
    exact hbody l pre x W hl hp hN
  · rintro D xs W hD rfl hi hd
    exact hdone D W hD hi hd
  · rintro D c pre W hD hpre ⟨rfl, hi⟩ hd
    exact wpIn_ret (hstop D pre W hD hpre hi hd)
/-! ### A region that draws its order and only reads, within a round -/
def noDefer (ops : Array Oper) : Bool := ops.all fun o => match o.op with | .defer _ => false | _ => true
theorem noDefer_spec {ops : Array Oper} (h : noDefer ops = true) (i : Nat) (o : Oper) (hi : ops[i]? = some o) : ∀ c, o.op ≠ .defer c := by
  intro c hc
  unfold noDefer at h
  rw [Array.all_eq_true] at h
  obtain ⟨hlt, rfl⟩ := Array.getElem?_eq_some_iff.1 hi
  have := h i hlt
  rw [hc] at this
  cases this
section
variable {P : Program} {ops : Array Oper} {md : Region.Mode} {C : World → Prop}
theorem wpInR_of_quiet {n l : Nat} {o : Oper} {a : Act} {K : Act → Prop} {K' : Act → World → Prop} {Q' : Exit → Act → World → Prop} {w : World} (hd : ∀ c, o.op ≠ .defer c) (hw : C w) (h : ∀ a w', C w' → K a → K' a w')
    (hh : o.quiet P a C K) : o.wpIn (Fence.wide.inRound l) n P a w K' Q' := by
  obtain ⟨v, h1, h2⟩ := hh
  have h3 := h1 w hw
  unfold Oper.quietAt at h3
  unfold Oper.wpIn
  refine ⟨fun _ _ => trivial, ?_⟩
  rw [Oper.semAt_eq _ _ _ hd]
  generalize (execOp a.eval o).run P w = r at *
  cases r with
  | ok x w' =>
    cases x <;> simp only [Oper.quietUpon] at h3 <;> simp only [Oper.uponIn]
    case value u =>
      obtain ⟨e1, e2⟩ := h3
      rw [e1, e2]
      exact h _ _ hw h2
    case skip =>
      obtain ⟨e1, e2⟩ := h3
      rw [e1, ← e2]
      exact h _ _ hw h2
    case enter f args =>
      obtain ⟨e1, hc⟩ := h3
      rw [e1]
      exact ⟨fun h => by simp [Fence.wide, Fence.inRound] at h, (CallsIn.inRound l (callsIn_wide.2 hc)).mono fun e w'' ⟨he, hw''⟩ => by subst he; exact h _ _ hw'' h2⟩
  | halt x w' => simp only [Oper.quietUpon] at h3
theorem wpOpInR_of_qOp {n l i : Nat} {a : Act} {K : Act → Prop} {K' : Act → World → Prop} {Q' : Exit → Act → World → Prop} {w : World} (hnd : noDefer ops = true) (hC : C w) (h : ∀ a w', C w' → K a → K' a w')
    (hh : qOp P ops C i K a) : wpOpIn (Fence.wide.inRound l) n P ops Q' i K' a w := by
  unfold qOp at hh
  unfold wpOpIn
  split
  · rename_i ho; simp only [ho] at hh; exact h _ _ hC hh
  · rename_i o ho
    simp only [ho] at hh
    split
    · rename_i hw; simp only [hw, if_true] at hh; exact wpInR_of_quiet (noDefer_spec hnd i o ho) hC h hh
    · rename_i hw; simp only [hw] at hh; exact ⟨fun _ _ => trivial, h _ _ hC hh⟩
theorem wpAnyInR_of_quiet {n l : Nat} {Q : Act → Prop} {Q' : Exit → Act → World → Prop} (hnd : noDefer ops = true) (hQ : ∀ a w, C w → Q a → Q' .normal a w) : ∀ (fuel : Nat) (listed : Array Bool) (a : Act) (w : World), C w →
    wpAnyQ P md ops C Q fuel listed a → wpAnyIn (Fence.wide.inRound l) n P md ops Q' fuel listed a w
  | 0, _, _, _, hw, h => ⟨h.1, hQ _ _ hw h.2⟩
  | fuel + 1, _, _, _, hw, h => ⟨fun h0 => hQ _ _ hw (h.1 h0), fun i hi => wpOpInR_of_qOp hnd hw (fun a' w' hw' => wpAnyInR_of_quiet hnd hQ fuel _ a' w' hw') (h.2 i hi)⟩
theorem wpInR_region_quiet {n l id k : Nat} {Q : Exit → Act → World → Prop} {a : Act} {w : World} {os : List Oper} (hm : P.follows .mixedOrders = true) (hB : Region.lexB .any os.toArray = true) (hnd : noDefer os.toArray = true)
    (h : wpQuiet P os.toArray (fun w' => ∃ n, w' = w.drewN n) (fun a' => ∀ w', (∃ n, w' = w.drewN n) → Q .normal a' w') os a) : (Code.region id os.toArray true).wpIn (Fence.wide.inRound l) n P Q a (w.drewN k) := by
  simp only [Region.lexB, Bool.and_eq_true] at hB
  refine wpIn_region_any hm (wpAnyInR_of_quiet (C := fun w' => ∃ n, w' = w.drewN n) (Q := fun a' => ∀ w', (∃ n, w' = w.drewN n) → Q .normal a' w') hnd (fun _ w' hw' h => h w' hw') _ _ _ _ ⟨k + 1, rfl⟩ ?_)
  have := wpAnyQ_lex (C := fun w' => ∃ n, w' = w.drewN n) (md := .any) hB.1 os 0 (Array.replicate os.toArray.size false) a (by simp) (by simpa using hB.2) h
  simpa using this
theorem wpInR_region_quiet0 {n l id : Nat} {Q : Exit → Act → World → Prop} {a : Act} {w : World} {os : List Oper} (hm : P.follows .mixedOrders = true) (hB : Region.lexB .any os.toArray = true) (hnd : noDefer os.toArray = true)
    (h : wpQuiet P os.toArray (fun w' => ∃ n, w' = w.drewN n) (fun a' => ∀ w', (∃ n, w' = w.drewN n) → Q .normal a' w') os a) : (Code.region id os.toArray true).wpIn (Fence.wide.inRound l) n P Q a w :=
  wpInR_region_quiet (k := 0) hm hB hnd h
end
theorem grownBy_trans {a b c : World} {row : Option Nat} (h : a.grownBy b row) (k : b.grownBy c row) : a.grownBy c row :=
  ⟨k.os.trans h.os, k.tape.trans h.tape, k.output.trans h.output, Nat.le_trans h.size k.size, fun i hi hne => (k.block i (Nat.lt_of_lt_of_le hi h.size) hne).trans (h.block i hi hne)⟩
/-! ### append of one element, which the statement lays into a block of its own -/
section
variable {P : Program} (W : World)
theorem wpListIn_append1 {F : Fence} {m : Nat} {ops : Array Oper} {rest : List Oper} {o : Oper} {a : Act} {Q : Exit → Act → World → Prop} (hg : o.guard = none) (s x : Operand) (t : TypeId)
    (hop : o.op = .call { callee := .builtin .append, args := #[s, x], argTypes := #[t, t] })
    (base : Nat) (e : TypeId) (i : TypeInfo) (z : Value) (bytes : Nat) (ht : P.underlying t = some (.slice e)) (hi : P.info? e = some i) (hz : i.zero = some z)
    (hsize : i.size = 1) (hby : i.bytes = bytes) (hzs : z.cells.size = 1)
    (v : Value) (n : Nat) (xs : List Value) (hs : a.eval s = v) (hown : W.owns base e 1 v n xs) (u : Value) (H : Nat) (hH : W.heap.size = H) (hx : a.eval x = .slice (some ⟨H, 0, none⟩) 1 1) (h1 : u.oneCell' = true)
    (h63 : n + 1 ≤ maxLen) (hbytes : (n + 1) * bytes ≤ 140737488355328) (hbase : base ≤ W.heap.size)
    (h : ∀ v' w', w'.owns base e 1 v' (n + 1) (xs ++ [u]) → (W.alloc (.cells #[u] e)).grownBy w' v.ownBlock → W.grownBy w' v.ownBlock → W.heap.size < w'.heap.size → wpListIn F m P ops Q rest (a.put o.dst v') w') : wpListIn F m P ops Q (o :: rest) a (W.alloc (.cells #[u] e)) := by
  subst hH
  refine wpListIn_plain hg fun K hK' => ?_
  obtain ⟨v', w', hrun, h2, h3, _⟩ := run_append_owns (P := P) (W.alloc (.cells #[u] e)) base t o.type e i z 1 bytes ht hi hz hsize hby hzs (by decide) v n xs (hown.alloc _) ⟨W.heap.size, 0, none⟩ 1 1 [u] rfl (news_alloc W [u] e) (by simpa using h1) h63 hbytes (by simp; omega)
  unfold Oper.wpIn
  refine ⟨?_, ?_⟩
  · simp [Oper.about, hop, resolve, Target.leads, Sem.run_pure]
  · rw [Oper.semAt_plain F _ _ (by rw [hop]; intro c hc'; cases hc')]
    simp [execOp, hop, resolve, invoke, builtin, hs, hx, hrun, Result.andThen]
    exact hK' _ _ (h v' w' h2 h3 (grownBy_trans (World.grownBy_alloc W _ _) h3) (by have := h3.size; simp at this; omega))
theorem wpList_append1 {ops : Array Oper} {rest : List Oper} {o : Oper} {a : Act} {Q : Exit → Act → World → Prop} (hg : o.guard = none) (s x : Operand) (t : TypeId)
    (hop : o.op = .call { callee := .builtin .append, args := #[s, x], argTypes := #[t, t] })
    (base : Nat) (e : TypeId) (i : TypeInfo) (z : Value) (bytes : Nat) (ht : P.underlying t = some (.slice e)) (hi : P.info? e = some i) (hz : i.zero = some z)
    (hsize : i.size = 1) (hby : i.bytes = bytes) (hzs : z.cells.size = 1)
    (v : Value) (n : Nat) (xs : List Value) (hs : a.eval s = v) (hown : W.owns base e 1 v n xs) (u : Value) (H : Nat) (hH : W.heap.size = H) (hx : a.eval x = .slice (some ⟨H, 0, none⟩) 1 1) (h1 : u.oneCell' = true)
    (h63 : n + 1 ≤ maxLen) (hbytes : (n + 1) * bytes ≤ 140737488355328) (hbase : base ≤ W.heap.size)
    (h : ∀ v' w', w'.owns base e 1 v' (n + 1) (xs ++ [u]) → (W.alloc (.cells #[u] e)).grownBy w' v.ownBlock → W.grownBy w' v.ownBlock → W.heap.size < w'.heap.size → wpList P ops Q rest (a.put o.dst v') w') : wpList P ops Q (o :: rest) a (W.alloc (.cells #[u] e)) := by
  subst hH
  refine wpList_plain hg fun K hK' => ?_
  obtain ⟨v', w', hrun, h2, h3, _⟩ := run_append_owns (P := P) (W.alloc (.cells #[u] e)) base t o.type e i z 1 bytes ht hi hz hsize hby hzs (by decide) v n xs (hown.alloc _) ⟨W.heap.size, 0, none⟩ 1 1 [u] rfl (news_alloc W [u] e) (by simpa using h1) h63 hbytes (by simp; omega)
  unfold Oper.wp execOp
  simp only [hop, resolve, invoke, builtin, Sem.run_bind, Sem.run_pure, Result.andThen_ok, List.map_toArray, List.map_cons, List.map_nil, hs, hx, hrun]
  exact hK' _ _ (h v' w' h2 h3 (grownBy_trans (World.grownBy_alloc W _ _) h3) (by have := h3.size; simp at this; omega))
end
/-- An owned row lies on where blocks of cells of its type do. -/
theorem World.owns.keptBy {w w' : World} {base : Nat} {e : TypeId} {size : Nat} {v : Value} {n : Nat} {xs : List Value} (h : w.owns base e size v n xs) (hk : ∀ (g : Nat) (c : Array Value) (fz : Nat × Nat), v.ownBlock = some g → w.heap[g]? = some (.cells c e fz) → w'.heap[g]? = w.heap[g]?) : w'.owns base e size v n xs := by
  refine ⟨h.1, ?_⟩
  rcases h.2 with hn | ⟨g, cap, cur, fz, rfl, hb, hgg, rest⟩
  · exact .inl hn
  · exact .inr ⟨g, cap, cur, fz, rfl, hb, (hk g cur fz rfl hgg).trans hgg, rest⟩
end Go
