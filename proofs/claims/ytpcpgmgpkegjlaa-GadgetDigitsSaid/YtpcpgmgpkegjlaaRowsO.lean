/- Rows that a function makes and appends to a list of its own. -/
import Derived.Test.YtpcpgmgpkegjlaaApp
namespace Go
open RowKit
/-- A slice that is owned, of slices that are owned. -/
def World.rowsO {α : Type} (enc : α → Value) (w : World) (base : Nat) (T e : TypeId) (v : Value) (rows : List (List α)) : Prop :=
  ∃ vs : List Value, vs.length = rows.length ∧ w.owns base T 1 v rows.length vs ∧ ∀ (i : Nat) (r : List α), rows[i]? = some r → ∃ u, vs[i]? = some u ∧ w.owns base e 1 u r.length (r.map enc)
section
variable {α : Type} {enc : α → Value} {w w' : World} {base base' : Nat} {T e : TypeId} {v : Value} {rs : List (List α)}
theorem World.rowsO_nil (w : World) (base : Nat) (T e : TypeId) : w.rowsO enc base T e (.slice none 0 0) [] := ⟨[], rfl, World.owns_nil _ _ _ _, fun i r h => by simp at h⟩
theorem World.rowsO.below (h : w.rowsO enc base T e v rs) (hb : Below w.heap.size w w') : w'.rowsO enc base T e v rs := by
  obtain ⟨vs, h1, h2, h3⟩ := h
  exact ⟨vs, h1, h2.below hb, fun i r hr => by obtain ⟨u, k1, k2⟩ := h3 i r hr; exact ⟨u, k1, k2.below hb⟩⟩
theorem World.rowsO.drewN (h : w.rowsO enc base T e v rs) (n : Nat) : (w.drewN n).rowsO enc base T e v rs := h
theorem World.rowsO.mono (h : w.rowsO enc base T e v rs) (hb : base' ≤ base) : w.rowsO enc base' T e v rs := by
  obtain ⟨vs, h1, h2, h3⟩ := h
  exact ⟨vs, h1, h2.mono hb, fun i r hr => by obtain ⟨u, k1, k2⟩ := h3 i r hr; exact ⟨u, k1, k2.mono hb⟩⟩
theorem World.rowsO.setCell (h : w.rowsO enc base T e v rs) {a : Addr} (ha : a.block < base) (x : Value) : (w.setCell a x).rowsO enc base T e v rs := by
  obtain ⟨vs, h1, h2, h3⟩ := h
  exact ⟨vs, h1, h2.setCell ha x, fun i r hr => by obtain ⟨u, k1, k2⟩ := h3 i r hr; exact ⟨u, k1, k2.setCell ha x⟩⟩
theorem World.rowsO.rows (h : w.rowsO enc base T e v rs) : w.rows enc w.heap.size v rs := by
  obtain ⟨vs, h1, h2, h3⟩ := h
  exact ⟨vs, h1, h2.reads, fun i r hr => by obtain ⟨u, k1, k2⟩ := h3 i r hr; exact ⟨u, k1, k2.reads⟩⟩
theorem World.rowsO.open_ (h : w.rowsO enc base T e v rs) : ∃ a c, v = .slice a rs.length c := by
  obtain ⟨vs, h1, h2, _⟩ := h
  obtain ⟨a, c, hv⟩ := reads_len h2.reads
  exact ⟨a, c, by rw [hv, h1]⟩
/-- One more row. -/
theorem World.rowsO.push (hT : T ≠ e) (h : w.rowsO enc base T e v rs) {u v4 : Value} {W4 : World} {r : List α} (hu : w.owns base e 1 u r.length (r.map enc))
    (hown4 : ∀ vs, w.owns base T 1 v rs.length vs → W4.owns base T 1 v4 (rs.length + 1) (vs ++ [u])) (hg : w.grownBy W4 v.ownBlock) : W4.rowsO enc base T e v4 (rs ++ [r]) := by
  obtain ⟨vs, h1, h2, h3⟩ := h
  have hk : ∀ {n : Nat} {x : Value} {xs : List Value}, w.owns base e 1 x n xs → W4.owns base e 1 x n xs := by
    intro n x xs hx
    refine hx.kept hg ?_
    rcases h2.2 with ⟨rfl, _⟩ | ⟨g, cap, cur, fz, rfl, _, hgg, _⟩
    · cases hxo : x.ownBlock
      · exact .inl rfl
      · exact .inr (by simp [Value.ownBlock])
    · exact .inr (hx.ne hgg hT)
  refine ⟨vs ++ [u], by simp [h1], by simpa using hown4 vs h2, fun i y hj => ?_⟩
  rcases Nat.lt_trichotomy i rs.length with hlt | rfl | hgt
  · rw [List.getElem?_append_left hlt] at hj
    obtain ⟨u', k1, k2⟩ := h3 i y hj
    exact ⟨u', by rw [List.getElem?_append_left (by rw [h1]; exact hlt)]; exact k1, hk k2⟩
  · rw [List.getElem?_append_right (Nat.le_refl _)] at hj
    simp at hj
    subst hj
    exact ⟨u, by rw [← h1, List.getElem?_append_right (Nat.le_refl _)]; simp, hk hu⟩
  · rw [List.getElem?_append_right (by omega)] at hj
    have : i - rs.length ≠ 0 := by omega
    obtain ⟨m, hm⟩ := Nat.exists_eq_succ_of_ne_zero this
    rw [hm] at hj
    simp at hj
end
/-- The row of a value is no block of a set. -/
def Value.freeOf (S : Nat → Prop) (v : Value) : Prop := ∀ k, v.ownBlock = some k → ¬ S k
theorem freeOf_none (S : Nat → Prop) : (Value.slice none 0 0).freeOf S := fun k h => by simp [Value.ownBlock] at h
theorem World.owns.freeOf {w : World} {base n : Nat} {e : TypeId} {v : Value} {xs : List Value} (h : w.owns base e 1 v n xs) {S : Nat → Prop} (hS : ∀ b, S b → b < base ∨ w.heap.size ≤ b) : v.freeOf S := fun k hk hs => by
  have := h.lt k hk
  have := hS k hs
  omega
theorem World.owns.keepP {w w' : World} {base n : Nat} {e : TypeId} {v : Value} {xs : List Value} (h : w.owns base e 1 v n xs) {S : Nat → Prop} (hk : KeepP S w w') (hS : ∀ b, base ≤ b → b < w.heap.size → S b) : w'.owns base e 1 v n xs :=
  h.keptBy fun g _ _ hg _ => hk g (hS g (h.lt g hg).1 (h.lt g hg).2)
theorem World.rowsO.keepP {α : Type} {enc : α → Value} {w w' : World} {base : Nat} {T e : TypeId} {v : Value} {rs : List (List α)} (h : w.rowsO enc base T e v rs) {S : Nat → Prop} (hk : KeepP S w w') (hS : ∀ b, base ≤ b → b < w.heap.size → S b) : w'.rowsO enc base T e v rs := by
  obtain ⟨vs, h1, h2, h3⟩ := h
  exact ⟨vs, h1, h2.keepP hk hS, fun i r hr => by obtain ⟨u, k1, k2⟩ := h3 i r hr; exact ⟨u, k1, k2.keepP hk hS⟩⟩
theorem World.rowsO.freeOf {α : Type} {enc : α → Value} {w : World} {base : Nat} {T e : TypeId} {v : Value} {rs : List (List α)} (h : w.rowsO enc base T e v rs) {S : Nat → Prop} (hS : ∀ b, S b → b < base ∨ w.heap.size ≤ b) : v.freeOf S := by
  obtain ⟨vs, h1, h2, h3⟩ := h
  exact h2.freeOf hS
theorem World.owns.at_ {w : World} {base n : Nat} {e : TypeId} {v : Value} {xs : List Value} (h : w.owns base e 1 v n xs) : ∃ a c, v = .slice a n c ∧ n ≤ c ∧ c ≤ 9223372036854775807 ∧
    ∀ (k : Nat) (x : Value), xs[k]? = some x → ∃ b, a = some ⟨b, 0, none⟩ ∧ base ≤ b ∧ b < w.heap.size ∧ w.cell? ⟨b, k, none⟩ = some x := by
  have h' := h
  rcases h.2 with ⟨rfl, rfl⟩ | ⟨g, cap, cur, fz, rfl, hbg, hg, _, hnc, hcm, _⟩
  · have : xs = [] := List.eq_nil_of_length_eq_zero (by simpa using h.1)
    subst this
    exact ⟨none, 0, rfl, Nat.le_refl _, Nat.zero_le _, fun k x hk => by simp at hk⟩
  · exact ⟨_, cap, rfl, hnc, by unfold maxLen at hcm; exact hcm, fun k x hk => ⟨g, rfl, hbg, lt_of_heap hg, h'.cell k x hk⟩⟩
theorem World.rowsO.shape {α : Type} {enc : α → Value} {w : World} {base : Nat} {T e : TypeId} {v : Value} {rs : List (List α)} (h : w.rowsO enc base T e v rs) :
    ∃ a c, v = .slice a rs.length c ∧ rs.length ≤ c ∧ c ≤ 9223372036854775807 ∧ ∀ (j : Nat) (r : List α), rs[j]? = some r → ∃ b b2 c2, a = some ⟨b, 0, none⟩ ∧ base ≤ b ∧ b < w.heap.size ∧ w.cell? ⟨b, j, none⟩ = some (.slice b2 r.length c2) ∧ r.length ≤ c2 ∧ c2 ≤ 9223372036854775807 ∧
      ∀ (k : Nat) (x : α), r[k]? = some x → ∃ eb, b2 = some ⟨eb, 0, none⟩ ∧ base ≤ eb ∧ eb < w.heap.size ∧ w.cell? ⟨eb, k, none⟩ = some (enc x) := by
  obtain ⟨vs, h1, h2, h3⟩ := h
  obtain ⟨a, c, hv, q1, q2, q3⟩ := h2.at_
  refine ⟨a, c, hv, q1, q2, fun j r hj => ?_⟩
  obtain ⟨u, hu, hown⟩ := h3 j r hj
  obtain ⟨b, p1, p2, p3, p4⟩ := q3 j u hu
  obtain ⟨b2, c2, rfl, r1, r2, r3⟩ := hown.at_
  exact ⟨b, b2, c2, p1, p2, p3, p4, r1, r2, fun k x hk => r3 k (enc x) (by simp [hk])⟩
section
variable {P : Program} {W : World} {ops : Array Oper} {rest : List Oper} {o : Oper} {a : Act} {Q : Exit → Act → World → Prop}
theorem below_own {base n : Nat} {e : TypeId} {v : Value} {xs : List Value} {W4 : World} (h : W.owns base e 1 v n xs) (hg : W.grownBy W4 v.ownBlock) : ∀ B0 w0, Below B0 w0 W → B0 ≤ base → B0 ≤ W.heap.size → Below B0 w0 W4 :=
  fun B0 _ hB h1 h2 => hB.grown hg h2 (fun k hk => by have := (h.lt k hk).1; omega)
/-- append to a row that is owned: where the new row lies. -/
theorem run_append_fresh (w : World) (base : Nat) (t ty e : TypeId) (i : TypeInfo) (z : Value) (bytes : Nat) (ht : P.underlying t = some (.slice e)) (hi : P.info? e = some i) (hz : i.zero = some z)
    (hsize : i.size = 1) (hby : i.bytes = bytes) (hzs : z.cells.size = 1)
    (v : Value) (n : Nat) (xs : List Value) (hown : w.owns base e 1 v n xs)
    (a : Addr) (m c : Nat) (news : List Value) (hl : news.length = m) (hnews : ∀ j u, news[j]? = some u → w.cell? (a.add j) = some u) (h1 : ∀ u ∈ news, u.oneCell' = true)
    (h63 : n + m ≤ maxLen) (hbytes : (n + m) * bytes ≤ 140737488355328) (hbase : base ≤ w.heap.size) :
    ∃ v' w', (Builtin.append_ #[t, t] ty #[v, .slice (some a) m c]).run P w = .ok v' w' ∧ w'.owns base e 1 v' (n + m) (xs ++ news) ∧ w.grownBy w' v.ownBlock ∧ (v'.ownBlock = v.ownBlock ∨ ∀ k, v'.ownBlock = some k → w.heap.size ≤ k) := by
  rcases hown.2 with ⟨rfl, rfl⟩ | ⟨g, cap, cur, fz, rfl, hbg, hg, hfz, hnc, hcm, hcs, htake⟩
  · have hxs : xs = [] := List.eq_nil_of_length_eq_zero (by simpa using hown.1)
    subst hxs
    obtain ⟨v', w', h1, h2, h3, h4⟩ := run_append_owns (P := P) w w.heap.size t ty e i z 1 bytes ht hi hz hsize hby hzs (by decide) (.slice none 0 0) 0 [] (World.owns_nil _ _ _ _) a m c news (by simpa using hl) hnews h1 h63 hbytes (Nat.le_refl _)
    exact ⟨v', w', h1, h2.mono hbase, h3, .inr (fun k hk => (h2.lt k hk).1)⟩
  · subst hby
    have hsmall : n + m ≤ 9223372036854775807 := by simp only [maxLen] at h63; omega
    by_cases hroom : n + m ≤ cap
    · have hfit : n * i.size + news.length ≤ cur.size := by rw [hsize]; omega
      have hr := run_append_room_fz (P := P) w t ty e i ht hi g n cap cur fz hg hfz a m c news (by rw [hsize]; omega) hnews h1 hroom hfit
      obtain ⟨v', w', k1, k2, k3, k4⟩ := run_append_owns (P := P) w base t ty e i z 1 i.bytes ht hi hz hsize rfl hzs (by decide) _ n xs hown a m c news (by simpa using hl) hnews h1 h63 hbytes hbase
      refine ⟨v', w', k1, k2, k3, .inl ?_⟩
      rw [hr] at k1
      injection k1 with e1 _
      rw [← e1]; rfl
    · have holds : ∀ j u, xs[j]? = some u → w.cell? ((⟨g, 0, none⟩ : Addr).add j) = some u := hown.cells (g := g) rfl
      have hr := run_append_grow (P := P) w t ty e i z ht hi hz ⟨g, 0, none⟩ n cap xs (by rw [hsize]; exact hown.1) holds a m c news (by rw [hsize]; omega) hnews (by omega) (by omega) (growslice_fits (by omega) hbytes)
      obtain ⟨v', w', k1, k2, k3, k4⟩ := run_append_owns (P := P) w base t ty e i z 1 i.bytes ht hi hz hsize rfl hzs (by decide) _ n xs hown a m c news (by simpa using hl) hnews h1 h63 hbytes hbase
      refine ⟨v', w', k1, k2, k3, .inr fun k hk => ?_⟩
      rw [hr] at k1
      injection k1 with e1 _
      rw [← e1] at hk
      simp [Value.ownBlock] at hk
      omega
theorem keep_push {v v' : Value} {W4 : World} (hg : W.grownBy W4 v.ownBlock) (hf : v'.ownBlock = v.ownBlock ∨ ∀ k, v'.ownBlock = some k → W.heap.size ≤ k) :
    ∀ S W0, KeepP S W0 W → (∀ b, S b → b < W.heap.size) → v.freeOf S → KeepP S W0 W4 ∧ v'.freeOf S := by
  intro S W0 hk hS hv
  refine ⟨hk.grown hg hS hv, fun k e hs => ?_⟩
  rcases hf with hf | hf
  · rw [hf] at e; exact hv k e hs
  · have := hf k e; have := hS k hs; omega
/-- The append of one element. -/
theorem wpList_push1 (hg : o.guard = none) (s x : Operand) (t : TypeId)
    (hop : o.op = .call { callee := .builtin .append, args := #[s, x], argTypes := #[t, t] })
    (base : Nat) (e : TypeId) (i : TypeInfo) (z : Value) (bytes : Nat) (ht : P.underlying t = some (.slice e)) (hi : P.info? e = some i) (hz : i.zero = some z)
    (hsize : i.size = 1) (hby : i.bytes = bytes) (hzs : z.cells.size = 1)
    (v : Value) (n : Nat) (xs : List Value) (hs : a.eval s = v) (hown : W.owns base e 1 v n xs) (u : Value) (H : Nat) (hH : W.heap.size = H) (hx : a.eval x = .slice (some ⟨H, 0, none⟩) 1 1) (h1 : u.oneCell' = true)
    (h63 : n + 1 ≤ maxLen) (hbytes : (n + 1) * bytes ≤ 140737488355328) (hbase : base ≤ W.heap.size)
    (h : ∀ v' w', w'.owns base e 1 v' (n + 1) (xs ++ [u]) → W.heap.size < w'.heap.size → (∀ B0 w0, Below B0 w0 W → B0 ≤ base → Below B0 w0 w') → wpList P ops Q rest (a.put o.dst v') w') : wpList P ops Q (o :: rest) a (W.alloc (.cells #[u] e)) :=
  wpList_append1 W hg s x t hop base e i z bytes ht hi hz hsize hby hzs v n xs hs hown u H hH hx h1 h63 hbytes hbase
    fun v' w' h2 _ h4 h5 => h v' w' h2 h5 (fun B0 w0 hB hb => below_own hown h4 B0 w0 hB hb (by omega))
/-- The append of one row. -/
theorem run_pushRow {α : Type} {enc : α → Value} (base : Nat) (t ty T e : TypeId) (hT : T ≠ e) (i : TypeInfo) (z : Value) (bytes : Nat) (ht : P.underlying t = some (.slice T)) (hi : P.info? T = some i) (hz : i.zero = some z)
    (hsize : i.size = 1) (hby : i.bytes = bytes) (hzs : z.cells.size = 1)
    (v : Value) (rows : List (List α)) (hown : W.rowsO enc base T e v rows) (u : Value) (r : List α) (hu : W.owns base e 1 u r.length (r.map enc)) (h1 : u.oneCell' = true)
    (h63 : rows.length + 1 ≤ maxLen) (hbytes : (rows.length + 1) * bytes ≤ 140737488355328) (hbase : base ≤ W.heap.size) :
    ∃ v' w', (Builtin.append_ #[t, t] ty #[v, .slice (some ⟨W.heap.size, 0, none⟩) 1 1]).run P (W.alloc (.cells #[u] T)) = .ok v' w' ∧ w'.rowsO enc base T e v' (rows ++ [r]) ∧ W.heap.size < w'.heap.size ∧ (∀ B0 w0, Below B0 w0 W → B0 ≤ base → Below B0 w0 w') ∧
      (∀ S W0, KeepP S W0 W → (∀ b, S b → b < W.heap.size) → v.freeOf S → KeepP S W0 w' ∧ v'.freeOf S) := by
  obtain ⟨vs, k1, k2, k3⟩ := hown
  obtain ⟨v', w', hrun, h2, h3, h4⟩ := run_append_fresh (P := P) (W.alloc (.cells #[u] T)) base t ty T i z bytes ht hi hz hsize hby hzs v rows.length vs (k2.alloc _) ⟨W.heap.size, 0, none⟩ 1 1 [u] rfl (news_alloc W [u] T) (by simpa using h1) h63 hbytes (by simp; omega)
  have hg := grownBy_trans (World.grownBy_alloc W (.cells #[u] T) v.ownBlock) h3
  have hlt : W.heap.size < w'.heap.size := by have := h3.size; simp at this; omega
  refine ⟨v', w', hrun, World.rowsO.push hT ⟨vs, k1, k2, k3⟩ hu (fun vs' hv' => ?_) hg, hlt, fun B0 w0 hB hb => below_own k2 hg B0 w0 hB hb (by omega), keep_push hg ?_⟩
  · have : vs' = vs := by
      rcases k2.2 with ⟨e1, e2⟩ | ⟨g, cap, cur, fz, rfl, _, q1, _, _, _, _, q2⟩
      · have a1 := k2.1; have a2 := hv'.1
        rw [e2] at a1 a2
        have b1 : vs = [] := List.eq_nil_of_length_eq_zero (by simpa using a1)
        have b2 : vs' = [] := List.eq_nil_of_length_eq_zero (by simpa using a2)
        rw [b1, b2]
      · rcases hv'.2 with ⟨e1, e2⟩ | ⟨g', cap', cur', fz', e1, _, q1', _, _, _, _, q2'⟩
        · cases e1
        · injection e1 with e1 e2 e3
          injection e1 with e1
          injection e1 with e1
          subst e1
          rw [q1] at q1'
          injection q1' with q1'
          injection q1' with q1' _ _
          rw [← q2, ← q2', q1']
    rw [this]; exact h2
  · rcases h4 with h4 | h4
    · exact .inl h4
    · exact .inr fun k hk => by have := h4 k hk; simp at this; omega
theorem wpList_pushRow {α : Type} {enc : α → Value} (hg : o.guard = none) (s x : Operand) (t : TypeId)
    (hop : o.op = .call { callee := .builtin .append, args := #[s, x], argTypes := #[t, t] })
    (base : Nat) (T e : TypeId) (hT : T ≠ e) (i : TypeInfo) (z : Value) (bytes : Nat) (ht : P.underlying t = some (.slice T)) (hi : P.info? T = some i) (hz : i.zero = some z)
    (hsize : i.size = 1) (hby : i.bytes = bytes) (hzs : z.cells.size = 1)
    (v : Value) (rows : List (List α)) (hs : a.eval s = v) (hown : W.rowsO enc base T e v rows) (u : Value) (r : List α) (hu : W.owns base e 1 u r.length (r.map enc)) (H : Nat) (hH : W.heap.size = H) (hx : a.eval x = .slice (some ⟨H, 0, none⟩) 1 1) (h1 : u.oneCell' = true)
    (h63 : rows.length + 1 ≤ maxLen) (hbytes : (rows.length + 1) * bytes ≤ 140737488355328) (hbase : base ≤ W.heap.size)
    (h : ∀ v' w', w'.rowsO enc base T e v' (rows ++ [r]) → W.heap.size < w'.heap.size → (∀ B0 w0, Below B0 w0 W → B0 ≤ base → Below B0 w0 w') → (∀ S W0, KeepP S W0 W → (∀ b, S b → b < W.heap.size) → v.freeOf S → KeepP S W0 w' ∧ v'.freeOf S) → wpList P ops Q rest (a.put o.dst v') w') : wpList P ops Q (o :: rest) a (W.alloc (.cells #[u] T)) := by
  subst hH
  refine wpList_plain hg fun K hK' => ?_
  obtain ⟨v', w', hrun, h2, h3, h4, h5⟩ := run_pushRow (P := P) base t o.type T e hT i z bytes ht hi hz hsize hby hzs v rows hown u r hu h1 h63 hbytes hbase
  unfold Oper.wp execOp
  simp only [hop, resolve, invoke, builtin, Sem.run_bind, Sem.run_pure, Result.andThen_ok, List.map_toArray, List.map_cons, List.map_nil, hs, hx, hrun]
  exact hK' _ _ (h v' w' h2 h3 h4 h5)
/-- The same at an operation of a region that draws its order. -/
theorem step_pushRow {α : Type} {enc : α → Value} {K : Act → World → Prop} {E : Prop} (hgd : o.guard = none) (s x : Operand) (t : TypeId)
    (hop : o.op = .call { callee := .builtin .append, args := #[s, x], argTypes := #[t, t] })
    (base : Nat) (T e : TypeId) (hT : T ≠ e) (i : TypeInfo) (z : Value) (bytes : Nat) (ht : P.underlying t = some (.slice T)) (hi : P.info? T = some i) (hz : i.zero = some z)
    (hsize : i.size = 1) (hby : i.bytes = bytes) (hzs : z.cells.size = 1)
    (v : Value) (rows : List (List α)) (hs : a.eval s = v) (hown : W.rowsO enc base T e v rows) (u : Value) (r : List α) (hu : W.owns base e 1 u r.length (r.map enc)) (H : Nat) (hH : W.heap.size = H) (hx : a.eval x = .slice (some ⟨H, 0, none⟩) 1 1) (h1 : u.oneCell' = true)
    (h63 : rows.length + 1 ≤ maxLen) (hbytes : (rows.length + 1) * bytes ≤ 140737488355328) (hbase : base ≤ W.heap.size)
    (h : ∀ v' w', w'.rowsO enc base T e v' (rows ++ [r]) → W.heap.size < w'.heap.size → (∀ B0 w0, Below B0 w0 W → B0 ≤ base → Below B0 w0 w') → (∀ S W0, KeepP S W0 W → (∀ b, S b → b < W.heap.size) → v.freeOf S → KeepP S W0 w' ∧ v'.freeOf S) → K (a.put o.dst v') w') :
    if Region.wanted o (yielded ops a.tmps) = true then Oper.wp P o a (W.alloc (.cells #[u] T)) K Q else E := by
  subst hH
  have hw : Region.wanted o (yielded ops a.tmps) = true := by simp [Region.wanted, hgd]
  rw [if_pos hw]
  obtain ⟨v', w', hrun, h2, h3, h4, h5⟩ := run_pushRow (P := P) base t o.type T e hT i z bytes ht hi hz hsize hby hzs v rows hown u r hu h1 h63 hbytes hbase
  unfold Oper.wp execOp
  simp only [hop, resolve, invoke, builtin, Sem.run_bind, Sem.run_pure, Result.andThen_ok, List.map_toArray, List.map_cons, List.map_nil, hs, hx, hrun]
  exact h v' w' h2 h3 h4 h5
theorem step_append_reads {w : World} {K : Act → World → Prop} {E : Prop} (hgd : o.guard = none) (s x : Operand) (t : TypeId)
    (ho : o.op = .call { callee := .builtin .append, args := #[s, x], argTypes := #[t, t] })
    (base : Nat) (e : TypeId) (i : TypeInfo) (z : Value) (bytes : Nat) (ht : P.underlying t = some (.slice e)) (hi : P.info? e = some i) (hz : i.zero = some z)
    (hsize : i.size = 1) (hby : i.bytes = bytes) (hzs : z.cells.size = 1)
    (v : Value) (n : Nat) (xs : List Value) (hs : a.eval s = v) (hown : w.owns base e 1 v n xs)
    (B : Nat) (xv : Value) (news : List Value) (hx : a.eval x = xv) (hr : w.reads B xv news) (h1 : ∀ u ∈ news, u.oneCell' = true)
    (h63 : n + news.length ≤ maxLen) (hbytes : (n + news.length) * bytes ≤ 140737488355328) (hbase : base ≤ w.heap.size)
    (h : ∀ v' w', w'.owns base e 1 v' (n + news.length) (xs ++ news) → w.grownBy w' v.ownBlock → K (a.put o.dst v') w') :
    if Region.wanted o (yielded ops a.tmps) = true then Oper.wp P o a w K Q else E := by
  have hw : Region.wanted o (yielded ops a.tmps) = true := by simp [Region.wanted, hgd]
  rw [if_pos hw]
  obtain ⟨v', w', hrun, h2, h3⟩ := run_append_reads (P := P) w base t o.type e i z bytes ht hi hz hsize hby hzs v n xs hown B xv news hr h1 h63 hbytes hbase
  unfold Oper.wp execOp
  simp only [ho, resolve, invoke, builtin, Sem.run_bind, Sem.run_pure, Result.andThen_ok, List.map_toArray, List.map_cons, List.map_nil, hs, hx, hrun]
  exact h v' w' h2 h3
end
end Go
