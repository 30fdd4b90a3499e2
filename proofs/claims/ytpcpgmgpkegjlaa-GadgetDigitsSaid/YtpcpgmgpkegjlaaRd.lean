/- Slices that are read: what a walk asks of them. -/
import Derived.Test.YtpcpgmgpkegjlaaOwn
import Derived.Deep.QuietTactic
import Derived.BigQuiet
import Derived.Deep.DeepCutAuto
import Derived.Deep.CutBlock
namespace Go
open RowKit
def u32V (x : Nat) : Value := .int .u32 (x : Int)
def i64V (x : Int) : Value := .int .i64 x
theorem reads_shape {α : Type} {w : World} {B : Nat} {v : Value} {l : List α} {enc : α → Value} (h : w.reads B v (l.map enc)) :
    ∃ a cap, v = .slice a l.length cap ∧ l.length ≤ cap ∧ cap ≤ 9223372036854775807 ∧ ∀ j x, l[j]? = some x → ∃ b off, a = some ⟨b, off, none⟩ ∧ b < B ∧ w.cell? ⟨b, off + j, none⟩ = some (enc x) := by
  obtain ⟨a, cap, rfl, _, hz, hmx, hc⟩ := h
  exact ⟨a, cap, by simp, by simpa using hz, by unfold maxLen at hmx; exact hmx, fun j x hx => hc j _ (by simp [hx])⟩
theorem reads_u32 {w : World} {B : Nat} {v : Value} {l : List Nat} (h : w.reads B v (l.map u32V)) :
    ∃ a cap, v = .slice a l.length cap ∧ l.length ≤ cap ∧ cap ≤ 9223372036854775807 ∧ ∀ (j x : Nat), l[j]? = some x → ∃ b off, a = some ⟨b, off, none⟩ ∧ b < B ∧ w.cell? ⟨b, off + j, none⟩ = some (.int .u32 (x : Int)) := reads_shape h
theorem reads_i64 {w : World} {B : Nat} {v : Value} {l : List Int} (h : w.reads B v (l.map i64V)) :
    ∃ a cap, v = .slice a l.length cap ∧ l.length ≤ cap ∧ cap ≤ 9223372036854775807 ∧ ∀ (j : Nat) (x : Int), l[j]? = some x → ∃ b off, a = some ⟨b, off, none⟩ ∧ b < B ∧ w.cell? ⟨b, off + j, none⟩ = some (.int .i64 x) := reads_shape h
theorem ret_bool {a b : Bool} (h : a = b) : Ending.returned (.bool a) = .returned (.bool b) := by rw [h]
theorem ret_int {k : IntKind} {a b : Int} (h : a = b) : Ending.returned (.int k a) = .returned (.int k b) := by rw [h]
theorem all_take_succ {α : Type} (p : α → Bool) (l : List α) (k : Nat) (x : α) (h : l[k]? = some x) : (l.take (k + 1)).all p = ((l.take k).all p && p x) := by
  rw [List.take_add_one, h]; simp
theorem reads_len {w : World} {B : Nat} {v : Value} {l : List Value} (h : w.reads B v l) : ∃ a cap, v = .slice a l.length cap := by
  obtain ⟨a, cap, rfl, _, _, _, _⟩ := h; exact ⟨a, cap, rfl⟩
theorem reads_nil (w : World) (B : Nat) : w.reads B (.slice none 0 0) [] := ⟨none, 0, rfl, fun _ => rfl, Nat.le_refl _, Nat.zero_le _, fun j u hj => by simp at hj⟩
theorem reads_block {w : World} {b B : Nat} {l : List Value} {e : TypeId} {fz : Nat × Nat} (h : w.heap[b]? = some (.cells l.toArray e fz)) (hb : b < B) (c : Nat) (hc : l.length ≤ c) (hm : c ≤ maxLen) :
    w.reads B (.slice (some ⟨b, 0, none⟩) l.length c) l := by
  refine ⟨some ⟨b, 0, none⟩, c, rfl, by simp, hc, hm, fun j u hj => ⟨b, 0, rfl, hb, ?_⟩⟩
  rw [Nat.zero_add, cell_of_row w b j l.toArray e fz h]; simpa using hj
theorem reads_alloc_new (w : World) (l : List Value) (e : TypeId) (c : Nat) (hc : l.length ≤ c) (hm : c ≤ maxLen) : (w.alloc (.cells l.toArray e)).reads (w.heap.size + 1) (.slice (some ⟨w.heap.size, 0, none⟩) l.length c) l :=
  reads_block (heap_alloc_new w _) (Nat.lt_succ_self _) c hc hm
theorem World.reads.drewN {w : World} {B : Nat} {v : Value} {xs : List Value} (h : w.reads B v xs) (n : Nat) : (w.drewN n).reads B v xs := h
theorem World.reads.drew {w : World} {B : Nat} {v : Value} {xs : List Value} (h : w.reads B v xs) : w.drew.reads B v xs := h
theorem World.reads.alloc {w : World} {B : Nat} {v : Value} {xs : List Value} (h : w.reads B v xs) (hB : B ≤ w.heap.size) (o : Obj) : (w.alloc o).reads B v xs := by
  obtain ⟨a, cap, hv, hn, hz, hmx, hc⟩ := h
  refine ⟨a, cap, hv, hn, hz, hmx, fun j u hj => ?_⟩
  obtain ⟨b, off, ha, hb, hcell⟩ := hc j u hj
  exact ⟨b, off, ha, hb, (World.cell?_alloc_lt w o ⟨b, off + j, none⟩ (show b < w.heap.size by omega)).trans hcell⟩
/-- A slice cut at its end. -/
theorem World.reads.take {w : World} {B : Nat} {a : Option Addr} {n c : Nat} {xs : List Value} (h : w.reads B (.slice a n c) xs) (k : Nat) (hk : k ≤ n) : w.reads B (.slice a k c) (xs.take k) := by
  obtain ⟨a', cap, hv, hn, hz, hmx, hc⟩ := h
  injection hv with h1 h2 h3
  subst h1 h3
  refine ⟨a, c, by rw [List.length_take, Nat.min_eq_left (by omega)], hn, by rw [List.length_take]; omega, hmx, fun j u hj => ?_⟩
  rw [List.getElem?_take] at hj
  split at hj
  · exact hc j u hj
  · cases hj
theorem quiet_left {P : Program} {f : FuncId} {args : Array Value} {w : World} {n : Nat} {v : Value}
    (h : Calls P f args (w.drewN n) fun e w' => e = .returned v ∧ w.drewN n = w') : Calls P f args (w.drewN n) fun e w'' => e = .returned v ∧ ∃ m, w'' = w.drewN m :=
  h.mono fun _ _ ⟨he, hm⟩ => ⟨he, n, hm.symm⟩
theorem quiet_add_left {P : Program} {f : FuncId} {args : Array Value} {w : World} {a n : Nat} {v : Value}
    (h : Calls P f args (w.drewN (a + n)) fun e w' => e = .returned v ∧ w.drewN (a + n) = w') :
    Calls P f args (w.drewN (a + n)) fun e w'' => e = .returned v ∧ ∃ m, w'' = w.drewN (a + m) :=
  h.mono fun _ _ ⟨he, hm⟩ => ⟨he, n, hm.symm⟩
theorem quiet_drew {P : Program} {f : FuncId} {args : Array Value} {w : World} {n : Nat} {v : Value}
    (h : Calls P f args (w.drewN n) fun e w' => e = .returned v ∧ ∃ k, w' = (w.drewN n).drewN k) : Calls P f args (w.drewN n) fun e w'' => e = .returned v ∧ ∃ m, w'' = w.drewN m :=
  h.mono fun _ _ ⟨he, k, hm⟩ => ⟨he, n + k, by rw [hm, World.drewN_drewN]⟩
theorem quiet_add_drew {P : Program} {f : FuncId} {args : Array Value} {w : World} {a n : Nat} {v : Value}
    (h : Calls P f args (w.drewN (a + n)) fun e w' => e = .returned v ∧ ∃ k, w' = (w.drewN (a + n)).drewN k) : Calls P f args (w.drewN (a + n)) fun e w'' => e = .returned v ∧ ∃ m, w'' = w.drewN (a + m) :=
  h.mono fun _ _ ⟨he, k, hm⟩ => ⟨he, n + k, by rw [hm, World.drewN_drewN, Nat.add_assoc]⟩
theorem below_of_drewN {B : Nat} {w w' : World} (h : ∃ n, w' = w.drewN n) : Below B w w' := by
  obtain ⟨n, rfl⟩ := h
  exact below_drewN (Below.refl _ _) n
theorem World.reads.le {w : World} {B : Nat} {v : Value} {xs : List Value} (h : w.reads B v xs) : xs.length ≤ 9223372036854775807 := by
  obtain ⟨a, cap, _, _, hz, hmx, _⟩ := h
  unfold maxLen at hmx; omega
theorem World.reads.le_map {α : Type} {enc : α → Value} {w : World} {B : Nat} {v : Value} {xs : List α} (h : w.reads B v (xs.map enc)) : xs.length ≤ 9223372036854775807 := by
  have := h.le; simpa using this
theorem World.reads.blk {w : World} {B : Nat} {v : Value} {xs : List Value} (h : w.reads B v xs) (h0 : 0 < xs.length) : ∀ a n c b off, v = .slice a n c → a = some ⟨b, off, none⟩ → b < B := by
  intro a n c b off hv ha
  obtain ⟨a', cap, hv', _, _, _, hc⟩ := h
  obtain ⟨b', off', ha', hb, _⟩ := hc 0 xs[0] (List.getElem?_eq_getElem h0)
  rw [hv'] at hv
  injection hv with h1 _ _
  rw [← h1, ha'] at ha
  injection ha with h2
  injection h2 with h3 _ _
  omega
/-- A slice of slices. -/
def World.rows {α : Type} (enc : α → Value) (w : World) (B : Nat) (v : Value) (rs : List (List α)) : Prop :=
  ∃ vs : List Value, vs.length = rs.length ∧ w.reads B v vs ∧ ∀ (i : Nat) (r : List α), rs[i]? = some r → ∃ u, vs[i]? = some u ∧ w.reads B u (r.map enc)
theorem World.rows.mapW {α : Type} {enc : α → Value} {w w' : World} {B B' : Nat} {v : Value} {rs : List (List α)} (h : w.rows enc B v rs) (hm : ∀ u xs, w.reads B u xs → w'.reads B' u xs) : w'.rows enc B' v rs := by
  obtain ⟨vs, hl, hr, hi⟩ := h
  exact ⟨vs, hl, hm _ _ hr, fun i r hir => by obtain ⟨u, h1, h2⟩ := hi i r hir; exact ⟨u, h1, hm _ _ h2⟩⟩
theorem World.rows.below {α : Type} {enc : α → Value} {w w' : World} {B : Nat} {v : Value} {rs : List (List α)} (h : w.rows enc B v rs) (hb : Below B w w') : w'.rows enc B v rs := h.mapW fun _ _ hr => hr.below hb
theorem World.rows.mono {α : Type} {enc : α → Value} {w : World} {B B' : Nat} {v : Value} {rs : List (List α)} (h : w.rows enc B v rs) (hb : B ≤ B') : w.rows enc B' v rs := h.mapW fun _ _ hr => hr.mono hb
theorem World.rows.le {α : Type} {enc : α → Value} {w : World} {B : Nat} {v : Value} {rs : List (List α)} (h : w.rows enc B v rs) : rs.length ≤ 9223372036854775807 := by
  obtain ⟨vs, hl, hr, _⟩ := h
  rw [← hl]; exact hr.le
/-- What a walk asks of it. -/
theorem World.rows.shape {α : Type} {enc : α → Value} {w : World} {B : Nat} {v : Value} {rs : List (List α)} (h : w.rows enc B v rs) :
    ∃ a cap, v = .slice a rs.length cap ∧ rs.length ≤ cap ∧ cap ≤ 9223372036854775807 ∧ ∀ (j : Nat) (r : List α), rs[j]? = some r → ∃ b off b2 c2, a = some ⟨b, off, none⟩ ∧ b < B ∧ w.cell? ⟨b, off + j, none⟩ = some (.slice b2 r.length c2) ∧ w.reads B (.slice b2 r.length c2) (r.map enc) := by
  obtain ⟨vs, hl, hr, hi⟩ := h
  obtain ⟨a, cap, rfl, _, hz, hmx, hc⟩ := hr
  refine ⟨a, cap, by rw [hl], by omega, by unfold maxLen at hmx; exact hmx, fun j r hj => ?_⟩
  obtain ⟨u, hu, hur⟩ := hi j r hj
  obtain ⟨b, off, ha, hb, hcell⟩ := hc j u hu
  obtain ⟨b2, c2, rfl, _⟩ := reads_shape hur
  exact ⟨b, off, b2, c2, ha, hb, hcell, hur⟩
end Go
