/- Helpers and walks, in one text. -/
import Derived.Test.YtkjlfjnncdkmlaaPF4
/- Wide integers: helpers and walks, in one text (KD8 KD9). -/
/- Walks: a list and a list of rows that grow in one object. -/
namespace Go
open RowKit
theorem wpList_pushF {P : Program} (W : World) {ops : Array Oper} {rest : List Oper} {o : Oper} {a : Act} {Q : Exit → Act → World → Prop} (hg : o.guard = none) (s x : Operand) (t : TypeId)
    (hop : o.op = .call { callee := .builtin .append, args := #[s, x], argTypes := #[t, t] })
    (base : Nat) (e : TypeId) (i : TypeInfo) (z : Value) (bytes : Nat) (ht : P.underlying t = some (.slice e)) (hi : P.info? e = some i) (hz : i.zero = some z)
    (hsize : i.size = 1) (hby : i.bytes = bytes) (hzs : z.cells.size = 1)
    (v : Value) (n : Nat) (xs : List Value) (hs : a.eval s = v) (hown : W.owns base e 1 v n xs) (u : Value) (H : Nat) (hH : W.heap.size = H) (hx : a.eval x = .slice (some ⟨H, 0, none⟩) 1 1) (h1 : u.oneCell' = true)
    (h63 : n + 1 ≤ maxLen) (hbytes : (n + 1) * bytes ≤ 140737488355328) (hbase : base ≤ W.heap.size)
    (h : ∀ v' w', w'.owns base e 1 v' (n + 1) (xs ++ [u]) → W.grownBy w' v.ownBlock → W.heap.size < w'.heap.size → (v'.ownBlock = v.ownBlock ∨ ∀ k, v'.ownBlock = some k → W.heap.size ≤ k) → wpList P ops Q rest (a.put o.dst v') w') : wpList P ops Q (o :: rest) a (W.alloc (.cells #[u] e)) := by
  subst hH
  refine wpList_plain hg fun K hK' => ?_
  obtain ⟨v', w', hrun, h2, h3, h4⟩ := run_append_fresh (P := P) (W.alloc (.cells #[u] e)) base t o.type e i z bytes ht hi hz hsize hby hzs v n xs (hown.alloc _) ⟨W.heap.size, 0, none⟩ 1 1 [u] rfl (news_alloc W [u] e) (by simpa using h1) h63 hbytes (by simp; omega)
  unfold Oper.wp execOp
  simp only [hop, resolve, invoke, builtin, Sem.run_bind, Sem.run_pure, Result.andThen_ok, List.map_toArray, List.map_cons, List.map_nil, hs, hx, hrun]
  refine hK' _ _ (h v' w' h2 (grownBy_trans (World.grownBy_alloc W _ _) h3) (by have := h3.size; simp at this; omega) ?_)
  rcases h4 with h4 | h4
  · exact .inl h4
  · exact .inr fun k hk => by have := h4 k hk; simp at this; omega
end Go
namespace Go.Proofs.Ytkjlfjnncdkmlaa
set_option linter.all false
open Go.RowKit Go.Shelf Go.WideNum PN
def RowsA (w : World) (base : Nat) (iv : Value) (rows : List (List Nat)) (g : Option Nat) : Prop :=
  ∃ vs : List Value, vs.length = rows.length ∧ w.owns base 23 1 iv rows.length vs ∧ ∀ (i : Nat) (r : List Nat), rows[i]? = some r → ∃ u, vs[i]? = some u ∧ w.owns base 22 1 u r.length (r.map u32V) ∧ (u.ownBlock = none ∨ u.ownBlock ≠ g)
theorem RowsA.nil (w : World) (base : Nat) (g : Option Nat) : RowsA w base (.slice none 0 0) [] g := ⟨[], rfl, World.owns_nil _ _ _ _, fun i r h => by simp at h⟩
theorem RowsA.below {w w' : World} {base : Nat} {iv : Value} {rows : List (List Nat)} {g : Option Nat} (h : RowsA w base iv rows g) (hb : Below w.heap.size w w') : RowsA w' base iv rows g := by
  obtain ⟨vs, h1, h2, h3⟩ := h
  exact ⟨vs, h1, h2.below hb, fun i r hr => by obtain ⟨u, k1, k2, k3⟩ := h3 i r hr; exact ⟨u, k1, k2.below hb, k3⟩⟩
theorem RowsA.setCell {w : World} {base : Nat} {iv : Value} {rows : List (List Nat)} {g : Option Nat} (h : RowsA w base iv rows g) {a : Addr} (ha : a.block < base) (x : Value) : RowsA (w.setCell a x) base iv rows g := by
  obtain ⟨vs, h1, h2, h3⟩ := h
  exact ⟨vs, h1, h2.setCell ha x, fun i r hr => by obtain ⟨u, k1, k2, k3⟩ := h3 i r hr; exact ⟨u, k1, k2.setCell ha x, k3⟩⟩
theorem RowsA.rows {w : World} {base : Nat} {iv : Value} {rows : List (List Nat)} {g : Option Nat} (h : RowsA w base iv rows g) : w.rows u32V w.heap.size iv rows := by
  obtain ⟨vs, h1, h2, h3⟩ := h
  exact ⟨vs, h1, h2.reads, fun i r hr => by obtain ⟨u, k1, k2, -⟩ := h3 i r hr; exact ⟨u, k1, k2.reads⟩⟩
theorem RowsA.open_ {w : World} {base : Nat} {iv : Value} {rows : List (List Nat)} {g : Option Nat} (h : RowsA w base iv rows g) : ∃ a c, iv = .slice a rows.length c := by
  obtain ⟨vs, h1, h2, _⟩ := h
  obtain ⟨a, c, rfl, -⟩ := h2.at_
  exact ⟨a, c, rfl⟩
theorem RowsA.push_list {w w' : World} {base n : Nat} {iv lv lv' : Value} {xs : List Value} {rows : List (List Nat)} (h : RowsA w base iv rows lv.ownBlock) (hl : w.owns base 22 1 lv n xs) (hg : w.grownBy w' lv.ownBlock)
    (hf : lv'.ownBlock = lv.ownBlock ∨ ∀ k, lv'.ownBlock = some k → w.heap.size ≤ k) : RowsA w' base iv rows lv'.ownBlock := by
  obtain ⟨vs, h1, h2, h3⟩ := h
  refine ⟨vs, h1, h2.kept hg ?_, fun i r hr => ?_⟩
  · cases hv : lv.ownBlock with
    | none =>
      cases hi : iv.ownBlock with
      | none => exact .inl rfl
      | some k => exact .inr (by simp)
    | some k =>
      rcases hl.2 with ⟨rfl, _⟩ | ⟨g, cap, cur, fz, rfl, _, hgg, _⟩
      · simp [Value.ownBlock] at hv
      · simp [Value.ownBlock] at hv
        subst hv
        have := h2.ne hgg (by decide)
        exact .inr this
  · obtain ⟨u, k1, k2, k3⟩ := h3 i r hr
    refine ⟨u, k1, k2.kept hg k3, ?_⟩
    rcases hf with hf | hf
    · rw [hf]; exact k3
    · cases hu : u.ownBlock with
      | none => exact .inl rfl
      | some k =>
        refine .inr fun e => ?_
        have h5 := (k2.lt k hu).2
        have h6 := hf k e.symm
        omega
theorem RowsA.push_row {w w' : World} {base n : Nat} {iv iv' lv u : Value} {xs : List Value} {rows : List (List Nat)} {r : List Nat} (h : RowsA w base iv rows lv.ownBlock) (hl : w.owns base 22 1 lv n xs) (hu : w.owns base 22 1 u r.length (r.map u32V)) (hne : u.ownBlock = none ∨ u.ownBlock ≠ lv.ownBlock)
    (hg : w.grownBy w' iv.ownBlock) (hown : ∀ vs, w.owns base 23 1 iv rows.length vs → w'.owns base 23 1 iv' (rows.length + 1) (vs ++ [u])) :
    RowsA w' base iv' (rows ++ [r]) lv.ownBlock ∧ w'.owns base 22 1 lv n xs := by
  obtain ⟨vs, h1, h2, h3⟩ := h
  have hk : ∀ {n : Nat} {x : Value} {xs : List Value}, w.owns base 22 1 x n xs → w'.owns base 22 1 x n xs := by
    intro n x xs hx
    refine hx.kept hg ?_
    rcases h2.2 with ⟨rfl, _⟩ | ⟨g, cap, cur, fz, rfl, _, hgg, _⟩
    · cases hxo : x.ownBlock
      · exact .inl rfl
      · exact .inr (by simp [Value.ownBlock])
    · exact .inr (hx.ne hgg (by decide))
  refine ⟨⟨vs ++ [u], by simp [h1], by simpa using hown vs h2, fun i y hj => ?_⟩, hk hl⟩
  rcases Nat.lt_trichotomy i rows.length with hlt | rfl | hgt
  · rw [List.getElem?_append_left hlt] at hj
    obtain ⟨u', k1, k2, k3⟩ := h3 i y hj
    exact ⟨u', by rw [List.getElem?_append_left (by rw [h1]; exact hlt)]; exact k1, hk k2, k3⟩
  · rw [List.getElem?_append_right (Nat.le_refl _)] at hj
    simp at hj
    subst hj
    exact ⟨u, by rw [← h1, List.getElem?_append_right (Nat.le_refl _)]; simp, hk hu, hne⟩
  · rw [List.getElem?_append_right (by omega)] at hj
    have : i - rows.length ≠ 0 := by omega
    obtain ⟨m, hm⟩ := Nat.exists_eq_succ_of_ne_zero this
    rw [hm] at hj
    simp at hj
theorem RowsA.unique {w : World} {base : Nat} {iv : Value} {rows : List (List Nat)} {g : Option Nat} (h : RowsA w base iv rows g) : ∃ vs, w.owns base 23 1 iv rows.length vs ∧ ∀ vs', w.owns base 23 1 iv rows.length vs' → vs' = vs := by
  obtain ⟨vs, h1, k2, h3⟩ := h
  refine ⟨vs, k2, fun vs' hv' => ?_⟩
  rcases k2.2 with ⟨e1, e2⟩ | ⟨g, cap, cur, fz, rfl, _, q1, _, _, _, _, q2⟩
  · have a1 := k2.1; have a2 := hv'.1
    rw [e2] at a1 a2
    have b1 : vs = [] := List.eq_nil_of_length_eq_zero (by simpa using a1)
    have b2 : vs' = [] := List.eq_nil_of_length_eq_zero (by simpa using a2)
    rw [b1, b2]
  · rcases hv'.2 with ⟨e1, e2⟩ | ⟨g', cap', cur', fz', e1, _, q1', _, _, _, _, q2'⟩
    · cases e1
    · injection e1 with e1 e2 e3
      injection e1 with e1
      injection e1 with e1
      subst e1
      rw [q1] at q1'
      injection q1' with q1'
      injection q1' with q1' _ _
      rw [← q2, ← q2', q1']
structure NewSt (w wr : World) (lv iv : Value) (l : List Nat) (rows : List (List Nat)) (Q : Nat) : Prop where
  h0 : wr.heap[w.heap.size]? = some (.cells #[lv, .bool (zN (Q : Nat)), .string (zT (Q : Nat)), iv, .bool true] 102)
  ol : wr.owns (w.heap.size + 1) 22 1 lv l.length (l.map u32V)
  rw' : RowsA wr (w.heap.size + 1) iv rows lv.ownBlock
  bel : Below w.heap.size w wr
theorem NewSt.below {w wr w' : World} {lv iv : Value} {l : List Nat} {rows : List (List Nat)} {Q : Nat} (h : NewSt w wr lv iv l rows Q) (hb : Below wr.heap.size wr w') : NewSt w w' lv iv l rows Q :=
  ⟨(hb.block _ (lt_of_heap h.h0)).trans h.h0, h.ol.below hb, h.rw'.below hb, h.bel.trans (hb.mono h.bel.size)⟩
theorem NewSt.sys {w wr : World} {lv iv : Value} {ps : List Nat} (h : NewSt w wr lv iv ps (invRows ps) (prodL ps)) : SysAt wr w.heap.size ps :=
  ⟨lv, iv, h.h0, h.ol.reads, h.rw'.rows⟩
theorem NewSt.size {w wr : World} {lv iv : Value} {l : List Nat} {rows : List (List Nat)} {Q : Nat} (h : NewSt w wr lv iv l rows Q) : w.heap.size + 1 ≤ wr.heap.size := lt_of_heap h.h0
theorem NewSt.pushL {w wr w' : World} {lv lv' iv : Value} {l : List Nat} {rows : List (List Nat)} {Q p : Nat} (h : NewSt w wr lv iv l rows Q) (ho : w'.owns (w.heap.size + 1) 22 1 lv' (l.length + 1) (l.map u32V ++ [u32V p])) (hg : wr.grownBy w' lv.ownBlock)
    (hf : lv'.ownBlock = lv.ownBlock ∨ ∀ k, lv'.ownBlock = some k → wr.heap.size ≤ k) : w'.heap[w.heap.size]? = some (.cells #[lv, .bool (zN (Q : Nat)), .string (zT (Q : Nat)), iv, .bool true] 102) ∧ NewSt w (w'.setCell ⟨w.heap.size, 0, none⟩ lv') lv' iv (l ++ [p]) rows Q := by
  have hs := h.size
  have hk : w'.heap[w.heap.size]? = some (.cells #[lv, .bool (zN (Q : Nat)), .string (zT (Q : Nat)), iv, .bool true] 102) := by
    rw [hg.block _ (by omega) (fun e => by have := (h.ol.lt _ e.symm).1; omega)]; exact h.h0
  refine ⟨hk, ?_, ?_, ?_, ?_⟩
  · simp [World.setCell, Array.getElem?_modify, hk]
  · have := ho.setCell (a := ⟨w.heap.size, 0, none⟩) (by simp) lv'
    rw [List.length_append, List.map_append]
    exact this
  · exact (h.rw'.push_list h.ol hg hf).setCell (by simp) _
  · have h1 : Below w.heap.size w w' := h.bel.grown hg (by omega) (fun k hk => by have := (h.ol.lt k hk).1; omega)
    exact h1.setCell (by simp) _
theorem NewSt.pushR {w wr w' : World} {lv iv iv' u : Value} {l : List Nat} {rows : List (List Nat)} {Q : Nat} {r : List Nat} (h : NewSt w wr lv iv l rows Q) (hu : wr.owns (w.heap.size + 1) 22 1 u r.length (r.map u32V)) (hne : u.ownBlock = none ∨ u.ownBlock ≠ lv.ownBlock)
    (hg : wr.grownBy w' iv.ownBlock) (hown : ∀ vs, wr.owns (w.heap.size + 1) 23 1 iv rows.length vs → w'.owns (w.heap.size + 1) 23 1 iv' (rows.length + 1) (vs ++ [u])) :
    w'.heap[w.heap.size]? = some (.cells #[lv, .bool (zN (Q : Nat)), .string (zT (Q : Nat)), iv, .bool true] 102) ∧ NewSt w (w'.setCell ⟨w.heap.size, 3, none⟩ iv') lv iv' l (rows ++ [r]) Q := by
  have hs := h.size
  obtain ⟨vs, k1, -⟩ := h.rw'.unique
  have hk : w'.heap[w.heap.size]? = some (.cells #[lv, .bool (zN (Q : Nat)), .string (zT (Q : Nat)), iv, .bool true] 102) := by
    rw [hg.block _ (by omega) (fun e => by have := (k1.lt _ e.symm).1; omega)]; exact h.h0
  obtain ⟨a1, a2⟩ := h.rw'.push_row h.ol hu hne hg hown
  refine ⟨hk, ?_, ?_, ?_, ?_⟩
  · simp [World.setCell, Array.getElem?_modify, hk]
  · exact a2.setCell (by simp) _
  · exact a1.setCell (by simp) _
  · have h1 : Below w.heap.size w w' := h.bel.grown hg (by omega) (fun k hk => by have := (k1.lt k hk).1; omega)
    exact h1.setCell (by simp) _
theorem NewSt.setQ {w wr : World} {lv iv : Value} {l : List Nat} {rows : List (List Nat)} {Q : Nat} (h : NewSt w wr lv iv l rows Q) (Q' : Nat) : NewSt w ((wr.setCell ⟨w.heap.size, 1, none⟩ (.bool (zN (Q' : Nat)))).setCell ⟨w.heap.size, 2, none⟩ (.string (zT (Q' : Nat)))) lv iv l rows Q' := by
  refine ⟨?_, ?_, ?_, ?_⟩
  · simp [World.setCell, Array.getElem?_modify, h.h0]
  · exact (h.ol.setCell (by simp) _).setCell (by simp) _
  · exact (h.rw'.setCell (by simp) _).setCell (by simp) _
  · exact (h.bel.setCell (by simp) _).setCell (by simp) _
end Go.Proofs.Ytkjlfjnncdkmlaa

/- Walks: a system is made. -/
namespace Go.Proofs.Ytkjlfjnncdkmlaa
set_option linter.all false
open Go.RowKit Go.Shelf Go.WideNum PN
def NewRet (w : World) (ps : List Nat) (ok : Bool) (e : Ending) (w' : World) : Prop :=
  Below w.heap.size w w' ∧ (if ok then e = .returned (.tuple #[.pointer (some ⟨w.heap.size, 0, none⟩), .int .i64 0]) ∧ SysAt w' w.heap.size ps else e = .returned (.tuple #[.pointer none, .int .i64 2]))
theorem NewRet.no {w w' : World} {ps : List Nat} (h : Below w.heap.size w w') : NewRet w ps false (.returned (.tuple #[.pointer none, .int .i64 2])) w' := ⟨h, rfl⟩
def SysO (B : Nat) (w : World) (b : Nat) (ps : List Nat) : Prop := B ≤ b ∧ ∃ lv iv, w.heap[b]? = some (.cells #[lv, .bool (zN (prodL ps : Nat)), .string (zT (prodL ps : Nat)), iv, .bool true] 102) ∧ w.owns B 22 1 lv ps.length (ps.map u32V) ∧ ∃ g, RowsA w B iv (invRows ps) g
theorem SysO.sys {B : Nat} {w : World} {b : Nat} {ps : List Nat} (h : SysO B w b ps) : SysAt w b ps := by
  obtain ⟨-, lv, iv, h1, h2, g, h3⟩ := h
  exact ⟨lv, iv, h1, h2.reads, h3.rows⟩
theorem SysO.below {B : Nat} {w w' : World} {b : Nat} {ps : List Nat} (h : SysO B w b ps) (hb : Below w.heap.size w w') : SysO B w' b ps := by
  obtain ⟨h0, lv, iv, h1, h2, g, h3⟩ := h
  exact ⟨h0, lv, iv, (hb.block _ (lt_of_heap h1)).trans h1, h2.below hb, g, h3.below hb⟩
theorem SysO.setCell {B : Nat} {w : World} {b : Nat} {ps : List Nat} (h : SysO B w b ps) {a : Addr} (ha : a.block < B) (x : Value) : SysO B (w.setCell a x) b ps := by
  obtain ⟨h0, lv, iv, h1, h2, g, h3⟩ := h
  exact ⟨h0, lv, iv, by rw [Below.heap_setCell _ _ _ _ (by omega)]; exact h1, h2.setCell ha x, g, h3.setCell ha x⟩
theorem RowsA.mono {w : World} {B C : Nat} {iv : Value} {rows : List (List Nat)} {g : Option Nat} (h : RowsA w B iv rows g) (hC : C ≤ B) : RowsA w C iv rows g := by
  obtain ⟨vs, h1, h2, h3⟩ := h
  exact ⟨vs, h1, h2.mono hC, fun i r hr => by obtain ⟨u, k1, k2, k3⟩ := h3 i r hr; exact ⟨u, k1, k2.mono hC, k3⟩⟩
theorem NewSt.so {w wr : World} {lv iv : Value} {ps : List Nat} (h : NewSt w wr lv iv ps (invRows ps) (prodL ps)) : SysO w.heap.size wr w.heap.size ps :=
  ⟨Nat.le_refl _, lv, iv, h.h0, h.ol.mono (by omega), _, h.rw'.mono (by omega)⟩
def NewRetS (w : World) (ps : List Nat) (ok : Bool) (e : Ending) (w' : World) : Prop :=
  Below w.heap.size w w' ∧ (if ok then e = .returned (.tuple #[.pointer (some ⟨w.heap.size, 0, none⟩), .int .i64 0]) ∧ SysO w.heap.size w' w.heap.size ps else e = .returned (.tuple #[.pointer none, .int .i64 2]))
theorem NewRetS.no {w w' : World} {ps : List Nat} (h : Below w.heap.size w w') : NewRetS w ps false (.returned (.tuple #[.pointer none, .int .i64 2])) w' := ⟨h, rfl⟩
theorem infoU32r : (Try.prog.info? 23).map (fun i => (i.zero, i.size, i.bytes)) = some (some (.slice none 0 0), 1, 24) := by kernel_rfl
theorem hasB_iff (l : List Nat) (x : Nat) : hasB l x = true ↔ x ∈ l := by unfold hasB; simp
theorem SysTo.succ {ps : List Nat} {k p : Nat} (h : SysTo ps k) (hp : ps[k]? = some p) (ho : OkAt (ps.take k) p) : SysTo ps (k + 1) := by
  intro i hi q hq
  rcases (show i < k ∨ i = k by omega) with h1 | rfl
  · exact h i h1 q hq
  · rw [hp] at hq; injection hq with hq; rw [← hq]; exact ho
theorem not_sys {ps : List Nat} {k p : Nat} {ok : Bool} (hok : ok = true ↔ SysP ps) (hp : ps[k]? = some p) (h : ¬ OkAt (ps.take k) p) : ok = false := by
  cases h1 : ok
  · rfl
  · exact absurd ((hok.1 h1).2.2 k (List.getElem?_eq_some_iff.1 hp).1 p hp) h
theorem invRows_take {ps : List Nat} {k p : Nat} (hp : ps[k]? = some p) : (invRows ps).take (k + 1) = (invRows ps).take k ++ [(ps.take k).map fun q => invN (q % p) p] := take_succR (invRows_get hp)
  where take_succR {l : List (List Nat)} {i : Nat} {r : List Nat} (h : l[i]? = some r) : l.take (i + 1) = l.take i ++ [r] := by rw [List.take_add_one, h]; rfl
set_option maxRecDepth 100000 in
set_option maxHeartbeats 8000000 in
theorem New_so (ps : List Nat) (pv : Value) (w : World) (hr : w.reads w.heap.size pv (ps.map u32V)) (hpb : ∀ p ∈ ps, p < 4294967296) (ok : Bool) (hok : ok = true ↔ SysP ps) :
    Calls Try.prog 50 #[pv] w (NewRetS w ps ok) := by
  obtain ⟨HPOST, hpost⟩ : ∃ R, R = NewRetS w ps ok := ⟨_, rfl⟩
  rw [← hpost]
  have HP := Lib.hid hpost
  have HOK := Lib.hid hok
  have hl1 := hr.le_map
  have HR := Lib.hid hr
  have HPB := Lib.hid hpb
  obtain ⟨pa, pc, rfl, hpc, hpm, hps⟩ := reads_u32 hr
  have HS := Lib.hid hps
  obtain ⟨n, hn⟩ : ∃ n, n = ps.length := ⟨_, rfl⟩
  rw [← hn] at hpc hl1 HR ⊢
  have HN := Lib.hid hn
  clear hpost hok hr hps hn hpb
  by_cases h1 : n < 1
  · have t1 : (n : Int) < 1 := by omega
    obtain rfl : ok = false := by
      cases h : ok
      · rfl
      · have := (HOK.out.1 h).1; have := HN.out; omega
    clear h1
    go_enter Try.func50, Try.ntmps50
    go_wp2
    rw [HP.out]
    exact NewRetS.no (Below.refl _ _)
  · have t1 : ¬ (n : Int) < 1 := by omega
    by_cases h2 : 25 < n
    · have t2 : (25 : Int) < (n : Int) := by omega
      obtain rfl : ok = false := by
        cases h : ok
        · rfl
        · have := (HOK.out.1 h).2.1; have := HN.out; omega
      clear h1 h2
      go_enter Try.func50, Try.ntmps50
      go_wp2
      rw [HP.out]
      exact NewRetS.no (Below.refl _ _)
    · have t2 : ¬ (25 : Int) < (n : Int) := by omega
      have hof := fun W => Of_z 1 (by omega) (by omega) W
      obtain ⟨ob, hob⟩ : ∃ z, z = zN 1 := ⟨_, rfl⟩
      obtain ⟨ot, hot⟩ : ∃ z, z = zT 1 := ⟨_, rfl⟩
      rw [← hob, ← hot] at hof
      have HOF := Lib.hid hof
      have HOB := Lib.hid hob
      have HOT := Lib.hid hot
      clear hof hob hot h1 h2
      go_enter Try.func50, Try.ntmps50
      go_upto_region 4 with (fail)
      have hg0 : (w.alloc (.cells #[.slice none 0 0, .bool false, .string ⟨#[]⟩, .slice none 0 0, .bool true] 102)).heap[w.heap.size]? = some (.cells #[.slice none 0 0, .bool false, .string ⟨#[]⟩, .slice none 0 0, .bool true] 102) := heap_alloc_new w _
      have hab : Below w.heap.size w (w.alloc (.cells #[.slice none 0 0, .bool false, .string ⟨#[]⟩, .slice none 0 0, .bool true] 102)) := (Below.refl _ _).alloc (Nat.le_refl _) _
      generalize w.alloc (.cells #[.slice none 0 0, .bool false, .string ⟨#[]⟩, .slice none 0 0, .bool true] 102) = wa at hg0 hab ⊢
      have HG0 := Lib.hid hg0
      have HAB := Lib.hid hab
      clear hg0 hab
      go_wp2_with fail
      (with_reducible refine (HOF.out _).mono ?_)
      rintro e w1 ⟨rfl, hb1⟩
      have hg1 := (hb1.block _ (lt_of_heap HG0.out)).trans HG0.out
      have hb01 := HAB.out.trans (hb1.mono HAB.out.size)
      have hst : NewSt w ((w1.setCell ⟨w.heap.size, 1, none⟩ (.bool ob)).setCell ⟨w.heap.size, 2, none⟩ (.string ot)) (.slice none 0 0) (.slice none 0 0) [] [] 1 := by
        refine ⟨?_, World.owns_nil _ _ _ _, RowsA.nil _ _ _, (hb01.setCell (by simp) _).setCell (by simp) _⟩
        rw [HOB.out, HOT.out]
        simp [World.setCell, Array.getElem?_modify, hg1]
      have HST := Lib.hid hst
      obtain ⟨-, c1, c2, -, -, -, f1, f2, -⟩ := five_sys hg1
      clear hb1 hb01 hst hg1
      go_upto_region 5 with (fail)
      generalize (w1.setCell ⟨w.heap.size, 1, none⟩ (.bool ob)).setCell ⟨w.heap.size, 2, none⟩ (.string ot) = w2 at HST ⊢
      clear c1 c2 f1 f2 HG0 HAB HOF HOB HOT
      go_wp2_with fail
      go_loopw [29] (fun iv wr => ∃ k : Nat, k ≤ n ∧ iv = .int .i64 (k : Int) ∧ Hid (SysTo ps k) ∧ Hid (∃ lv rv, NewSt w wr lv rv (ps.take k) ((invRows ps).take k) (prodL (ps.take k)))) (fun iv _ => n - (intOf iv).toNat)
      case atStart => exact ⟨0, Nat.zero_le _, rfl, fun i hi => by omega, ⟨_, _, HST.out⟩⟩
      case round =>
        obtain ⟨k, hk, rfl, hto, hS⟩ := hrel
        obtain ⟨wo, rfl⟩ : ∃ x, x = wr := ⟨_, rfl⟩
        obtain ⟨lv, rv, hS⟩ := hS.out
        have HS0 := Lib.hid hS
        clear hS
        by_cases hlt : k < n
        · have hkp : k < ps.length := by rw [← HN.out]; exact hlt
          obtain ⟨p, hp⟩ : ∃ p, ps[k]? = some p := ⟨ps[k], List.getElem?_eq_getElem hkp⟩
          obtain ⟨b2, o2, rfl, hb2l, d2⟩ := HS.out k p hp
          have hpl : p < 4294967296 := HPB.out p (List.mem_of_getElem? hp)
          have e2 := (HS0.out.bel.cell (p := ⟨b2, o2 + k, none⟩) hb2l).trans d2
          have HP1 := Lib.hid hp
          have s1 : (k : Int) < (n : Int) := by omega
          have s2 : k ≤ pc := by omega
          have s3 : (k : Int) ≤ (pc : Int) := by omega
          clear hkp hp d2
          by_cases hev : p % 2 = 0
          · obtain rfl : ok = false := not_sys HOK.out HP1.out (fun h => by have := h.1; omega)
            have u1 : (p : Int) % 2 = 0 := by omega
            clear hev
            go_wp2
            rw [HP.out]
            exact NewRetS.no HS0.out.bel
          · have u1 : (p : Int) % 2 = 1 := by omega
            by_cases hmx : 2147483647 < p
            · obtain rfl : ok = false := not_sys HOK.out HP1.out (fun h => by have := h.2.1; omega)
              have u2 : (2147483647 : Int) < (p : Int) := by omega
              clear hev hmx
              go_wp2
              rw [HP.out]
              exact NewRetS.no HS0.out.bel
            · have u2 : ¬ (2147483647 : Int) < (p : Int) := by omega
              obtain ⟨has, hhas⟩ : ∃ z, z = hasB (ps.take k) p := ⟨_, rfl⟩
              have hcon : Calls Try.prog 82 #[.slice (some ⟨b2, o2, none⟩) k pc, .int .u32 (p : Int)] wo fun e w' => e = .returned (.bool has) ∧ wo = w' := by
                rw [hhas]
                have h1 := ((HR.out.below HS0.out.bel).take k (by omega))
                rw [← List.map_take] at h1
                exact Contains_any p _ (ps.take k) _ wo h1
              have HCON := Lib.hid hcon
              obtain ⟨pr, hpr⟩ := em_bool (PrimeP p)
              have HPRM := Lib.hid (fun W => Prime_any p hpl pr hpr W)
              have HPR := Lib.hid hpr
              have HHAS := Lib.hid hhas
              have hodd : p % 2 = 1 := by omega
              have hmax : p ≤ 2147483647 := by omega
              clear hcon hpr hhas hev hmx
              go_wp2_with fail
              (with_reducible refine (HCON.out).mono ?_)
              rintro e w3 ⟨rfl, rfl⟩
              cases has with
              | true =>
                obtain rfl : ok = false := not_sys HOK.out HP1.out (fun h => h.2.2.1 ((hasB_iff _ _).1 HHAS.out.symm))
                go_wp2
                rw [HP.out]
                exact NewRetS.no HS0.out.bel
              | false =>
                go_wp2_with fail
                (with_reducible refine (HPRM.out _).mono ?_)
                rintro e w5 ⟨rfl, hb5⟩
                have HB5 := Lib.hid (HS0.out.bel.trans (hb5.mono HS0.out.bel.size))
                cases pr with
                | false =>
                  obtain rfl : ok = false := not_sys HOK.out HP1.out (fun h => by have := HPR.out.2 h.2.2.2; cases this)
                  clear hb5
                  go_wp2
                  rw [HP.out]
                  exact NewRetS.no HB5.out
                | true =>
                  have hok1 : OkAt (ps.take k) p := ⟨hodd, hmax, fun h => (by have h2 := (hasB_iff _ _).2 h; rw [← HHAS.out] at h2; cases h2), HPR.out.1 rfl⟩
                  have HTO2 := Lib.hid (hto.out.succ HP1.out hok1)
                  have hprp := hok1.2.2.2.pr (by omega)
                  have HPP := Lib.hid hprp
                  have HS5 := Lib.hid (HS0.out.below hb5)
                  have hp3 : 3 ≤ p := by have := hprp.1; omega
                  have HCOP : Hid (∀ j q : Nat, j < k → ps[j]? = some q → Nat.gcd p (q % p) = 1 ∧ q ≤ 2147483647) := fun j q hj hq => by
                    obtain ⟨o1, o2, o3, o4⟩ := hto.out j hj q hq
                    have hne : p ≠ q := fun e => hok1.2.2.1 (by rw [e]; exact List.mem_of_getElem? (by rw [List.getElem?_take, if_pos hj]; exact hq))
                    refine ⟨?_, o2⟩
                    rw [Nat.gcd_comm, ← Nat.gcd_rec]
                    exact pr_cop hprp (o4.pr (by omega)) hne
                  obtain ⟨R, hR⟩ : ∃ R, R = (ps.take k).map fun q => invN (q % p) p := ⟨_, rfl⟩
                  have HRL := Lib.hid hR
                  have n1 : ((p : Int) == 0) = false := by rw [beq_eq_false_iff_ne]; omega
                  have hk24 : k ≤ 25 := by omega
                  obtain ⟨i0, hi0, hiz, hiz1, hizb⟩ := info_parts infoU32
                  have HI0 := Lib.hid hi0
                  clear hb5 hok1 hto hprp hR HCON HPRM HHAS hodd HS0 e2 hi0
                  go_wp2_with fail
                  go_loopw [7, 57] (fun sv jv wr => ∃ j : Nat, j ≤ k ∧ jv = .int .i64 (j : Int) ∧ Hid (wr.owns w5.heap.size 22 1 sv j ((R.take j).map u32V)) ∧ Hid (Below w5.heap.size w5 wr)) (fun _ jv _ => k - (intOf jv).toNat)
                  case atStart => exact ⟨0, Nat.zero_le _, rfl, World.owns_nil _ _ _ _, Below.refl _ _⟩
                  case round =>
                    obtain ⟨j, hj, rfl, hO, hB⟩ := hrel
                    obtain ⟨sa, sc, rfl, -⟩ := hO.out.at_
                    by_cases hjk : j < k
                    · have hjp : j < ps.length := by have := HN.out; omega
                      obtain ⟨q, hq⟩ : ∃ q, ps[j]? = some q := ⟨ps[j], List.getElem?_eq_getElem hjp⟩
                      obtain ⟨b3, o3, hpa3, hb3l, d3⟩ := HS.out j q hq
                      injection hpa3 with hpa3
                      injection hpa3 with hpa3 hpa4 _
                      subst hpa3 hpa4
                      obtain ⟨hgc, hqm⟩ := HCOP.out j q hjk hq
                      obtain ⟨qp, hqp⟩ : ∃ z, z = q % p := ⟨_, rfl⟩
                      have hqpl : qp < p := by rw [hqp]; exact Nat.mod_lt _ (by omega)
                      rw [← hqp] at hgc
                      obtain ⟨i1, i2, -⟩ := invN_spec (show 2 ≤ p by omega) hpl hqpl hgc
                      obtain ⟨iw, hiw⟩ : ∃ z, z = invN qp p := ⟨_, rfl⟩
                      rw [← hiw] at i1 i2
                      have HINV := Lib.hid (fun W => Inverse_in qp p iw hqpl (by omega) hmax i1 i2 W)
                      have n3 : (q : Int) % (p : Int) = (qp : Int) := by rw [hqp]; simp
                      have e3 := ((HB5.out.trans (hB.out.mono HB5.out.size)).cell (p := ⟨b2, o2 + j, none⟩) hb3l).trans d3
                      have hRj : R[j]? = some iw := by rw [HRL.out, List.getElem?_map, List.getElem?_take, if_pos hjk, hq, hiw, hqp]; rfl
                      have HNXT : Hid ((R.take (j + 1)).map u32V = (R.take j).map u32V ++ [.int .u32 (iw : Int)]) := by
                        show _ = _
                        rw [List.take_add_one, hRj, List.map_append]; rfl
                      have t3 : (j : Int) < (k : Int) := by omega
                      clear hq d3 hgc hqp i2 hiw hRj hjp hqm
                      go_wp2_with fail
                      (with_reducible refine (HINV.out _).mono ?_)
                      rintro e w6 ⟨rfl, hb6⟩
                      have HO6 := Lib.hid (hO.out.below hb6)
                      have HB6 := Lib.hid (hB.out.trans (hb6.mono hB.out.size))
                      have hz6 : w5.heap.size ≤ w6.heap.size := HB6.out.size
                      clear hb6 hO hB e3 HINV
                      go_wp2_with (at_builtin; refine wpList_push1 rfl (.tmp 69) (.tmp 71) 23 rfl w5.heap.size 22 i0 (.int .u32 0) 4 Try.underlying23 HI0.out hiz hiz1 hizb rfl (.slice sa j sc) j _ rfl HO6.out (.int .u32 (iw : Int)) w6.heap.size rfl rfl (by simp [Value.oneCell']) (by unfold maxLen; omega) (by omega) hz6 ?_; intro v7 w7 ho7 hs7 hB7; have HO7 := Lib.hid ho7; have HB7 := Lib.hid (hB7 w5.heap.size w5 HB6.out (Nat.le_refl _)); obtain ⟨va7, vc7, rfl, -⟩ := ho7.at_; clear ho7 hs7 hB7)
                      go_roundw
                      case rel => exact ⟨j + 1, by omega, by go_num, by
                        show World.owns _ _ _ _ _ _ _
                        rw [HNXT.out]
                        exact HO7.out, HB7.out⟩
                      case measure => simp [intOf]; omega
                    · obtain rfl : k = j := by omega
                      have hRl : R.length = k := by rw [HRL.out, List.length_map, List.length_take]; have := HN.out; omega
                      have hRt : R.take k = R := List.take_of_length_le (by omega)
                      have hO1 := hO.out
                      rw [hRt] at hO1
                      have hNS := HS5.out.below hB.out
                      have hs5 := HS5.out.size
                      have hOu : wr.owns (w.heap.size + 1) 22 1 (.slice sa k sc) R.length (R.map u32V) := by rw [hRl]; exact hO1.mono hs5
                      have hne : (Value.slice sa k sc).ownBlock = none ∨ (Value.slice sa k sc).ownBlock ≠ lv.ownBlock := by
                        cases hu : (Value.slice sa k sc).ownBlock with
                        | none => exact .inl rfl
                        | some g =>
                          refine .inr fun e => ?_
                          have q1 := (hO1.lt g hu).1
                          have q2 := (HS5.out.ol.lt g e.symm).2
                          omega
                      have hll : (ps.take k).length = k := by rw [List.length_take]; have := HN.out; omega
                      have hrl : ((invRows ps).take k).length = k := by rw [List.length_take]; simp [invRows]; have := HN.out; omega
                      obtain ⟨la, lc, hlv, -⟩ := hNS.ol.at_
                      rw [hll] at hlv
                      subst hlv
                      obtain ⟨ia, ic, hrv⟩ := hNS.rw'.open_
                      rw [hrl] at hrv
                      subst hrv
                      obtain ⟨c0, -, -, -, -, f0, -⟩ := five_sys hNS.h0
                      have hol := hNS.ol
                      rw [hll] at hol
                      have HOL := Lib.hid hol
                      have HNS := Lib.hid hNS
                      have HOU := Lib.hid hOu
                      have HNE := Lib.hid hne
                      have HRLEN := Lib.hid hRl
                      have HLL := Lib.hid hll
                      have HRRL := Lib.hid hrl
                      have hwr1 : w.heap.size + 1 ≤ wr.heap.size := hNS.size
                      obtain ⟨i1, hi1, hi1z, hi1z1, hi1b⟩ := info_parts infoU32r
                      have HI1 := Lib.hid hi1
                      have t5 : ¬ (k : Int) < (k : Int) := by omega
                      clear hO1 hNS hOu hne hol hRl hRt hll hrl hO hB hs5 hi1 HB5 HCOP
                      go_upto_region 18 with (at_builtin; refine wpList_pushF wr rfl (.tmp 79) (.tmp 81) 23 rfl (w.heap.size + 1) 22 i0 (.int .u32 0) 4 Try.underlying23 HI0.out hiz hiz1 hizb rfl (.slice la k lc) k _ rfl HOL.out (.int .u32 (p : Int)) wr.heap.size rfl rfl (by simp [Value.oneCell']) (by unfold maxLen; omega) (by omega) hwr1 ?_; intro v7 w7 ho7 hg7 hz7 hf7; obtain ⟨hk7, hN7⟩ := HNS.out.pushL (p := p) (by rw [HLL.out]; exact ho7) hg7 hf7; have HN7 := Lib.hid hN7; have HU7 := Lib.hid ((HOU.out.kept hg7 HNE.out).setCell (a := ⟨w.heap.size, 0, none⟩) (by simp) v7); have HF7 := Lib.hid hf7; have HZU : Hid (∀ g, (Value.slice sa k sc).ownBlock = some g → g < wr.heap.size) := (fun g hg => (HOU.out.lt g hg).2); obtain ⟨va7, vc7, rfl, -⟩ := ho7.at_; obtain ⟨c0, -, -, -, -, f0, -⟩ := five_sys hk7; clear ho7 hg7 hk7 hN7 hf7)
                      generalize w7.setCell ⟨w.heap.size, 0, none⟩ (.slice va7 (k + 1) vc7) = w8 at HN7 HU7 ⊢
                      clear c0 f0
                      have hne8 : (Value.slice sa k sc).ownBlock = none ∨ (Value.slice sa k sc).ownBlock ≠ (Value.slice va7 (k + 1) vc7).ownBlock := by
                        rcases HF7.out with h | h
                        · rw [h]; exact HNE.out
                        · cases hu : (Value.slice sa k sc).ownBlock with
                          | none => exact .inl rfl
                          | some g =>
                            refine .inr fun e => ?_
                            have q1 := HZU.out g hu
                            have q2 := h g e.symm
                            omega
                      have HNE8 := Lib.hid hne8
                      obtain ⟨vs8, k8, huniq8⟩ := HN7.out.rw'.unique
                      have hk8 := k8
                      rw [HRRL.out] at hk8
                      have HK8 := Lib.hid hk8
                      have HUQ := Lib.hid huniq8
                      obtain ⟨-, -, -, c3, -, -, -, -, f3⟩ := five_sys HN7.out.h0
                      have hw81 : w.heap.size + 1 ≤ w8.heap.size := HN7.out.size
                      clear hne8 k8 hk8 huniq8 hwr1 hz7
                      go_upto_region 19 with (at_builtin; refine wpList_pushF w8 rfl (.tmp 91) (.tmp 93) 26 rfl (w.heap.size + 1) 23 i1 (.slice none 0 0) 24 Try.underlying26 HI1.out hi1z hi1z1 hi1b rfl (.slice ia k ic) k vs8 rfl HK8.out (.slice sa k sc) w8.heap.size rfl rfl (by rfl) (by unfold maxLen; omega) (by omega) hw81 ?_; intro v9 w9 ho9 hg9 hz9 hf9; obtain ⟨hk9, hN9⟩ := HN7.out.pushR (iv' := v9) HU7.out HNE8.out hg9 (fun vs hvs => by rw [HUQ.out vs hvs, HRRL.out]; exact ho9); have HN9 := Lib.hid hN9; obtain ⟨va9, vc9, rfl, -⟩ := ho9.at_; obtain ⟨-, -, -, c3, -, -, -, -, f3⟩ := five_sys hk9; clear ho9 hg9 hk9 hN9 hf9 hz9)
                      generalize w9.setCell ⟨w.heap.size, 3, none⟩ (.slice va9 (k + 1) vc9) = wA at HN9 ⊢
                      clear c3 f3 HN7 HU7 HK8 HUQ HNE8 hw81
                      obtain ⟨X, hX⟩ : ∃ X, X = prodL (ps.take k) := ⟨_, rfl⟩
                      obtain ⟨Y, hY⟩ : ∃ Y, Y = X * p := ⟨_, rfl⟩
                      have hYp : Y = prodL (ps.take (k + 1)) := by rw [take_succ' HP1.out, prodL_snoc, ← hX, hY]
                      have hbd : ∀ i, i ≤ 26 → prodL (ps.take i) < 4294967296 ^ 64 := fun i hi => by
                        have h1 := prodL_lt (l := ps.take i) (fun q hq => HPB.out q (List.mem_of_mem_take hq))
                        have h2 : 4294967296 ^ (ps.take i).length ≤ 4294967296 ^ 26 := Nat.pow_le_pow_right (by omega) (by rw [List.length_take]; omega)
                        have h3 : 4294967296 ^ 26 < 4294967296 ^ 64 := Nat.pow_lt_pow_right (by omega) (by omega)
                        omega
                      have rX : InR (X : Int) := by unfold InR; rw [Int.natAbs_natCast, lim_words, hX]; exact hbd k (by omega)
                      have rY : InR (Y : Int) := by unfold InR; rw [Int.natAbs_natCast, lim_words, hYp]; exact hbd (k + 1) (by omega)
                      have rp : InR (p : Int) := inR_small (by omega)
                      have eY : (X : Int) * (p : Int) = (Y : Int) := by rw [hY]; simp
                      have hmul := fun W => Mul_z (X : Int) (p : Int) rX rp (by rw [eY]; exact rY) W
                      have hofp := fun W => Of_z (p : Int) (by omega) (by omega) W
                      unfold WideOk at hmul
                      rw [eY] at hmul
                      rw [← hX] at HN9
                      obtain ⟨-, c1, c2, -⟩ := five_sys HN9.out.h0
                      obtain ⟨xb, hxb⟩ : ∃ z, z = zN (X : Int) := ⟨_, rfl⟩
                      obtain ⟨xt, hxt⟩ : ∃ z, z = zT (X : Int) := ⟨_, rfl⟩
                      obtain ⟨yb, hyb⟩ : ∃ z, z = zN (Y : Int) := ⟨_, rfl⟩
                      obtain ⟨yt, hyt⟩ : ∃ z, z = zT (Y : Int) := ⟨_, rfl⟩
                      obtain ⟨pb, hpb⟩ : ∃ z, z = zN (p : Int) := ⟨_, rfl⟩
                      obtain ⟨pt, hpt⟩ : ∃ z, z = zT (p : Int) := ⟨_, rfl⟩
                      rw [← hxb, ← hxt, ← hpb, ← hpt, ← hyb, ← hyt] at hmul
                      rw [← hxb] at c1
                      rw [← hxt] at c2
                      rw [← hpb, ← hpt] at hofp
                      have HMUL := Lib.hid hmul
                      have HOFP := Lib.hid hofp
                      have HYB := Lib.hid hyb
                      have HYT := Lib.hid hyt
                      have HYP := Lib.hid hYp
                      have hwA1 : w.heap.size < wA.heap.size := HN9.out.size
                      have w64p : IntKind.i64.wrap (p : Int) = (p : Int) := by rw [IntKind.wrap_i64]; omega
                      clear hmul hofp hxb hxt hyb hyt hpb hpt hX hY hYp hbd rX rY rp eY
                      go_wp2_with fail
                      refine wp_region_late (fun w' => w'.cell? ⟨w.heap.size, 1, none⟩ = some (.bool xb) ∧ w'.cell? ⟨w.heap.size, 2, none⟩ = some (.string xt)) (fun j => decide (j = 16)) (by kernel_rfl) ⟨c1, c2⟩ (fun hHeld => ?_)
                      refine wpAnyD_take 0 (v := ?_) (by kernel_rfl) (by kernel_rfl) rfl (by kernel_rfl) (by kernel_rfl) (fun _ _ _ h => h) (Or.inl ⟨by rfl, ?_⟩) (by assumption) ?_
                      rotate_left
                      · (intro wq hSq; (try dsimp only at hSq); go_simp; try with_reducible rfl)
                      try simp only [Act.put, List.setIfInBounds_toArray, List.set_cons_zero, List.set_cons_succ]
                      refine wpAnyD_take 1 (v := ?_) (by kernel_rfl) (by kernel_rfl) rfl (by kernel_rfl) (by kernel_rfl) (fun _ _ _ h => h) (Or.inl ⟨by rfl, ?_⟩) (by assumption) ?_
                      rotate_left
                      · (intro wq hSq; (try dsimp only at hSq); go_simp; try with_reducible rfl)
                      try simp only [Act.put, List.setIfInBounds_toArray, List.set_cons_zero, List.set_cons_succ]
                      refine wpAnyD_take 2 (v := ?_) (by kernel_rfl) (by kernel_rfl) rfl (by kernel_rfl) (by kernel_rfl) (fun _ _ _ h => h) (Or.inl ⟨by rfl, ?_⟩) (by assumption) ?_
                      rotate_left
                      · (intro wq hSq; (try dsimp only at hSq); go_simp; try with_reducible rfl)
                      try simp only [Act.put, List.setIfInBounds_toArray, List.set_cons_zero, List.set_cons_succ]
                      refine wpAnyD_take 3 (v := ?_) (by kernel_rfl) (by kernel_rfl) rfl (by kernel_rfl) (by kernel_rfl) (fun _ _ _ h => h) (Or.inl ⟨by rfl, ?_⟩) (by assumption) ?_
                      rotate_left
                      · (intro wq hSq; (try dsimp only at hSq); go_simp; try with_reducible rfl)
                      try simp only [Act.put, List.setIfInBounds_toArray, List.set_cons_zero, List.set_cons_succ]
                      refine wpAnyD_take 4 (v := ?_) (by kernel_rfl) (by kernel_rfl) rfl (by kernel_rfl) (by kernel_rfl) (fun _ _ _ h => h) (Or.inl ⟨by rfl, ?_⟩) (by assumption) ?_
                      rotate_left
                      · (intro wq hSq; (try dsimp only at hSq); go_simp; try with_reducible rfl)
                      try simp only [Act.put, List.setIfInBounds_toArray, List.set_cons_zero, List.set_cons_succ]
                      refine wpAnyD_take 5 (v := ?_) (by kernel_rfl) (by kernel_rfl) rfl (by kernel_rfl) (by kernel_rfl) (fun _ _ _ h => h) (Or.inl ⟨by rfl, ?_⟩) (by assumption) ?_
                      rotate_left
                      · (intro wq hSq; (try dsimp only at hSq); go_simp; try with_reducible rfl)
                      try simp only [Act.put, List.setIfInBounds_toArray, List.set_cons_zero, List.set_cons_succ]
                      refine wpAnyD_take 6 (v := ?_) (by kernel_rfl) (by kernel_rfl) rfl (by kernel_rfl) (by kernel_rfl) (fun _ _ _ h => h) (Or.inl ⟨by rfl, ?_⟩) (by assumption) ?_
                      rotate_left
                      · (intro wq hSq; (try dsimp only at hSq); go_simp; try with_reducible rfl)
                      try simp only [Act.put, List.setIfInBounds_toArray, List.set_cons_zero, List.set_cons_succ]
                      refine wpAnyD_take 7 (v := ?_) (by kernel_rfl) (by kernel_rfl) rfl (by kernel_rfl) (by kernel_rfl) (fun _ _ _ h => h) (Or.inl ⟨by rfl, ?_⟩) (by assumption) ?_
                      rotate_left
                      · (intro wq hSq; (try dsimp only at hSq); go_simp; try with_reducible rfl)
                      try simp only [Act.put, List.setIfInBounds_toArray, List.set_cons_zero, List.set_cons_succ]
                      refine wpAnyD_keep 8 (by kernel_rfl) rfl (fun K hK => ?_)
                      go_simp
                      go_at_call 85
                      (with_reducible refine (HOFP.out _).mono ?_)
                      rintro e wB ⟨rfl, hbB⟩
                      have hbB' : Below wA.heap.size wA wB := ((Below.refl wA.heap.size wA).drew).trans hbB
                      refine hK.out _ _ ⟨(hbB'.cell (p := ⟨w.heap.size, 1, none⟩) hwA1).trans c1, (hbB'.cell (p := ⟨w.heap.size, 2, none⟩) hwA1).trans c2⟩ (fun hHeld3 => ?_)
                      have HBB := Lib.hid hbB'
                      clear hK K hHeld hbB hbB'
                      try simp only [Act.put, List.setIfInBounds_toArray, List.set_cons_zero, List.set_cons_succ]
                      refine wpAnyD_keep 9 (by kernel_rfl) rfl (fun K hK => ?_)
                      go_simp
                      go_at_call 87
                      (with_reducible refine (HMUL.out _).mono ?_)
                      rintro e wC ⟨rfl, hbC⟩
                      have hbC' : Below wA.heap.size wA wC := below_via HBB.out hbC
                      refine hK.out _ _ ⟨(hbC'.cell (p := ⟨w.heap.size, 1, none⟩) hwA1).trans c1, (hbC'.cell (p := ⟨w.heap.size, 2, none⟩) hwA1).trans c2⟩ (fun hHeld4 => ?_)
                      have HNC := Lib.hid (HN9.out.below hbC')
                      clear hK K hHeld3 hbC hbC' c1 c2
                      try simp only [Act.put, List.setIfInBounds_toArray, List.set_cons_zero, List.set_cons_succ]
                      refine wpAnyD_takeW 10 (v := ?_) (by kernel_rfl) rfl (by kernel_rfl) (by kernel_rfl) (fun _ _ _ h => h) (Or.inl ⟨by rfl, ?_⟩) ?_
                      rotate_left
                      · (intro wq hSq; (try dsimp only at hSq); go_simp; try with_reducible rfl)
                      try simp only [Act.put, List.setIfInBounds_toArray, List.set_cons_zero, List.set_cons_succ]
                      refine wpAnyD_takeW 11 (v := ?_) (by kernel_rfl) rfl (by kernel_rfl) (by kernel_rfl) (fun _ _ _ h => h) (Or.inl ⟨by rfl, ?_⟩) ?_
                      rotate_left
                      · (intro wq hSq; (try dsimp only at hSq); go_simp; try with_reducible rfl)
                      try simp only [Act.put, List.setIfInBounds_toArray, List.set_cons_zero, List.set_cons_succ]
                      refine wpAnyD_takeW 12 (v := ?_) (by kernel_rfl) rfl (by kernel_rfl) (by kernel_rfl) (fun _ _ _ h => h) (Or.inl ⟨by rfl, ?_⟩) ?_
                      rotate_left
                      · (intro wq hSq; (try dsimp only at hSq); go_simp; try with_reducible rfl)
                      try simp only [Act.put, List.setIfInBounds_toArray, List.set_cons_zero, List.set_cons_succ]
                      refine wpAnyD_takeW 13 (v := ?_) (by kernel_rfl) rfl (by kernel_rfl) (by kernel_rfl) (fun _ _ _ h => h) (Or.inl ⟨by rfl, ?_⟩) ?_
                      rotate_left
                      · (intro wq hSq; (try dsimp only at hSq); go_simp; try with_reducible rfl)
                      try simp only [Act.put, List.setIfInBounds_toArray, List.set_cons_zero, List.set_cons_succ]
                      refine wpAnyD_takeW 14 (v := ?_) (by kernel_rfl) rfl (by kernel_rfl) (by kernel_rfl) (fun _ _ _ h => h) (Or.inl ⟨by rfl, ?_⟩) ?_
                      rotate_left
                      · (intro wq hSq; (try dsimp only at hSq); go_simp; try with_reducible rfl)
                      try simp only [Act.put, List.setIfInBounds_toArray, List.set_cons_zero, List.set_cons_succ]
                      refine wpAnyD_takeW 15 (v := ?_) (by kernel_rfl) rfl (by kernel_rfl) (by kernel_rfl) (fun _ _ _ h => h) (Or.inl ⟨by rfl, ?_⟩) ?_
                      rotate_left
                      · (intro wq hSq; (try dsimp only at hSq); go_simp; try with_reducible rfl)
                      try simp only [Act.put, List.setIfInBounds_toArray, List.set_cons_zero, List.set_cons_succ]
                      refine wpAnyD_step 16 (by kernel_rfl) rfl rfl (fun K hK => ?_)
                      obtain ⟨-, c1, c2, -, -, -, f1, f2, -⟩ := five_sys HNC.out.h0
                      go_simp
                      refine hK.out _ _ ?_
                      clear hK K hHeld4 c1 c2 f1 f2
                      refine wpAnyD_end (by kernel_rfl) ?_
                      go_wp2_with fail
                      go_roundw
                      case rel => exact ⟨k + 1, by omega, by go_num, HTO2.out, _, _, by
                        have h1 := HNC.out.setQ Y
                        rw [← HYB.out, ← HYT.out] at h1
                        rw [take_succ' HP1.out, invRows_take HP1.out, ← HRL.out, prodL_snoc, ← prodL_snoc, ← take_succ' HP1.out, ← HYP.out, take_succ' HP1.out]
                        exact h1⟩
                      case measure => simp [intOf]; omega
        · obtain rfl : k = n := by omega
          obtain rfl : ok = true := HOK.out.2 ⟨by have := HN.out; omega, by have := HN.out; omega, by rw [← HN.out]; exact hto.out⟩
          have h5 := HS0.out
          rw [HN.out, List.take_length, List.take_of_length_le (show (invRows ps).length ≤ ps.length by simp [invRows])] at h5
          have HF := Lib.hid h5
          clear h5 hto HS0
          go_wp2
          rw [HP.out]
          exact ⟨HF.out.bel, rfl, HF.out.so⟩
theorem New_any (ps : List Nat) (pv : Value) (w : World) (hr : w.reads w.heap.size pv (ps.map u32V)) (hpb : ∀ p ∈ ps, p < 4294967296) (ok : Bool) (hok : ok = true ↔ SysP ps) :
    Calls Try.prog 50 #[pv] w (NewRet w ps ok) := by
  refine (New_so ps pv w hr hpb ok hok).mono ?_
  rintro e w' ⟨h1, h2⟩
  refine ⟨h1, ?_⟩
  cases ok with
  | false => exact h2
  | true => exact ⟨h2.1, h2.2.sys⟩
end Go.Proofs.Ytkjlfjnncdkmlaa

/- Walks: the balanced coefficients of an element (the program's). -/
namespace Go.Proofs.Ytkjlfjnncdkmlaa.G
set_option linter.all false
open Go.RowKit Go.Shelf Go.BigFrame
attribute [local go_sem] Oper.semAt_some
def AllP (ml : List Nat) : Prop := ∀ q ∈ ml, PrimeP q
def WideI {k : Nat} (w W2 : World) (lb : Nat) (m : Fin k → Nat) (pre : List (Fin k)) (W : World) : Prop :=
  (∃ sv, W.heap[lb]? = some (.cells #[sv] 23) ∧ W.owns W2.heap.size 22 1 sv pre.length ((pre.map m).map u32V)) ∧ (∀ x ∈ pre, PrimeP (m x)) ∧ KeepP (fun b => b < W2.heap.size ∧ b ≠ lb) W2 W ∧ Below w.heap.size w W ∧ W2.heap.size ≤ W.heap.size
theorem wideI_own {k : Nat} (w W2 : World) (lb : Nat) (hlb : lb < W2.heap.size) (hw : w.heap.size ≤ W2.heap.size) (m : Fin k → Nat) : OwnFrom W2.heap.size (WideI w W2 lb m) := by
  rintro pre W W' row ⟨⟨sv, h1, h2⟩, h3, h4, h5, h6⟩ hg hr
  have hc : ∀ (g : Nat) (c : Array Value) (t : TypeId) (fz : Nat × Nat), W.heap[g]? = some (.cells c t fz) → W'.heap[g]? = W.heap[g]? := fun g c t fz h => grownBy_keeps_cells hg (fun r e => (hr r e).2) h rfl
  exact ⟨⟨sv, (hc _ _ _ _ h1).trans h1, h2.keptBy (fun g c fz _ h => hc g c _ fz h)⟩, h3, h4.grown hg (fun b hb => Nat.lt_of_lt_of_le hb.1 h6) (fun r e hb => by have := (hr r e).1; have := hb.1; omega),
    h5.grown hg h5.size (fun r e => by have := (hr r e).1; omega), Nat.le_trans h6 hg.size⟩
def wPart (F : Nat → Int) (n j : Nat) : Array Value := ((List.range (2 * n)).map fun c => if c / 2 < j then (if c % 2 = 0 then Value.bool (zN (F (c / 2))) else Value.string (zT (F (c / 2)))) else (if c % 2 = 0 then Value.bool false else Value.string ⟨#[]⟩)).toArray
def wArr (F : Nat → Int) (n : Nat) : Array Value := wPart F n n
theorem wPart_size (F : Nat → Int) (n j : Nat) : (wPart F n j).size = 2 * n := by simp [wPart]
theorem wPart_get {F : Nat → Int} {n j c : Nat} (hc : c < 2 * n) : (wPart F n j)[c]? = some (if c / 2 < j then (if c % 2 = 0 then Value.bool (zN (F (c / 2))) else Value.string (zT (F (c / 2)))) else (if c % 2 = 0 then Value.bool false else Value.string ⟨#[]⟩)) := by
  unfold wPart
  rw [List.getElem?_toArray, List.getElem?_map, List.getElem?_range hc]
  rfl
theorem wPart_set {F : Nat → Int} {n j : Nat} (hj : j < n) : ((wPart F n j).setIfInBounds (2 * j) (.bool (zN (F j)))).setIfInBounds (2 * j + 1) (.string (zT (F j))) = wPart F n (j + 1) := by
  apply Array.ext_getElem?
  intro c
  by_cases hc : c < 2 * n
  · rw [wPart_get hc, Array.getElem?_setIfInBounds, Array.getElem?_setIfInBounds]
    by_cases h1 : 2 * j + 1 = c
    · rw [if_pos h1, if_pos (by simp [wPart_size]; omega), if_pos (by omega), if_neg (by omega), show c / 2 = j by omega]
    · rw [if_neg h1]
      by_cases h2 : 2 * j = c
      · rw [if_pos h2, if_pos (by rw [wPart_size]; omega), if_pos (by omega), if_pos (by omega), show c / 2 = j by omega]
      · rw [if_neg h2, wPart_get hc]
        by_cases h3 : c / 2 < j
        · have h4 : c / 2 < j + 1 := by omega
          simp only [h3, h4, if_true]
        · have h4 : ¬ c / 2 < j + 1 := by omega
          simp only [h3, h4, if_false]
  · rw [Array.getElem?_eq_none (by simp [wPart_size]; omega), Array.getElem?_eq_none (by rw [wPart_size]; omega)]
theorem infoWide : (Try.prog.info? 42).map (fun i => (i.zero, i.size, i.bytes)) = some (some (.agg #[.bool false, .string ⟨#[]⟩]), 2, 24) := by kernel_rfl
theorem make_wide (n : Nat) (hn : n ≤ 1000) (F : Nat → Int) (W : World) : (Instr.makeSlice 37 (.int .i64 (n : Int)) (.int .i64 (n : Int))).run Try.prog W = .ok (.slice (some ⟨W.heap.size, 0, none⟩) n n) (W.alloc (.cells (wPart F n 0) 42)) := by
  obtain ⟨i0, hi, hz, h1, h2⟩ := info_parts infoWide
  have := run_make (P := Try.prog) W 37 42 i0 (.agg #[.bool false, .string ⟨#[]⟩]) Try.underlying37 hi hz .i64 .i64 (n : Int) (n : Int) (by omega) (by omega) (by rw [h2]; omega) (by omega)
  simp only [Int.toNat_natCast, h1] at this
  rw [this]
  have hz : madeCells (Value.agg #[.bool false, .string ⟨#[]⟩]).cells (n * 2) = wPart F n 0 := by
    have hc : (Value.agg #[.bool false, .string ⟨#[]⟩]).cells = #[.bool false, .string ⟨#[]⟩] := rfl
    rw [hc]
    apply Array.ext_getElem?
    intro c
    by_cases h : c < 2 * n
    · rw [wPart_get h, if_neg (by omega)]
      unfold madeCells
      rw [Array.getElem?_map, Array.getElem?_range, if_pos (by omega)]
      rcases (show c % 2 = 0 ∨ c % 2 = 1 by omega) with h3 | h3
      · simp [h3]
      · simp [h3]
    · rw [Array.getElem?_eq_none (by rw [size_madeCells]; omega), Array.getElem?_eq_none (by rw [wPart_size]; omega)]
  rw [hz]
theorem okTo_dist {chain : List Nat} {k : Nat} (h : okTo chain k = true) {i q : Nat} (hi : i < k) (hq : chain[i]? = some q) : q ∉ chain.take i := by
  unfold okTo at h
  rw [List.all_eq_true] at h
  have := h i (List.mem_range.2 hi)
  rw [hq] at this
  simp only [Option.all_some, Bool.and_eq_true, Bool.not_eq_true'] at this
  intro hm
  have h2 := (hasB_iff (chain.take i) q).2 hm
  rw [h2] at this
  cases this.2
theorem sys_modl {N : Int} {chain : List Nat} {sp lv : Nat} {s : Bool} (hv : validB N chain sp = true) (hp : placeB chain sp (lv : Int) s = true) (hA : AllP (modl chain sp lv s)) : SysP (modl chain sp lv s) := by
  obtain ⟨l1, l2⟩ := validB_len hv
  obtain ⟨k, hk, k1, k2⟩ := levB_nat hp
  obtain rfl : lv = k := by omega
  have hml := modl_length chain sp lv s k2
  have hv2 := hv
  unfold validB at hv2
  simp only [Bool.and_eq_true] at hv2
  refine ⟨by omega, by rw [hml]; cases s <;> simp <;> omega, fun i hi p hpi => ?_⟩
  have hm := List.mem_of_getElem? hpi
  obtain ⟨q1, q2⟩ := modl_ok2 hv hp p hm
  by_cases h : i < lv
  · have e1 : chain[i]? = some p := by
      unfold modl at hpi
      rwa [List.getElem?_append_left (by rw [List.length_take]; omega), List.getElem?_take, if_pos h] at hpi
    have e2 : (modl chain sp lv s).take i = chain.take i := by
      unfold modl
      rw [List.take_append_of_le_length (by rw [List.length_take]; omega), List.take_take, Nat.min_eq_left (by omega)]
    have hmb := okTo_get hv2.2 i p (by omega) e1
    refine ⟨?_, q2, ?_, hA p hm⟩
    · unfold modB at hmb
      simp only [Bool.and_eq_true, decide_eq_true_eq] at hmb
      exact hmb.2
    · rw [e2]; exact okTo_dist hv2.2 (by omega) e1
  · cases s with
    | false => simp at hml; omega
    | true =>
      have hil : i = lv := by simp at hml; omega
      subst hil
      have e1 : p = sp := by
        unfold modl at hpi
        rw [List.getElem?_append_right (by rw [List.length_take]; omega), List.length_take, Nat.min_eq_left k2, Nat.sub_self] at hpi
        simp at hpi
        exact hpi.symm
      subst e1
      have e2 : (modl chain p i true).take i = chain.take i := by
        unfold modl
        rw [List.take_append_of_le_length (by rw [List.length_take]; omega), List.take_take, Nat.min_eq_left (by omega)]
      have h1 : p ≠ 0 := by omega
      have h2 := hv2.1.2.2
      unfold spB at h2
      simp [h1] at h2
      refine ⟨?_, q2, ?_, hA p hm⟩
      · have := h2.1
        unfold modB at this
        simp only [Bool.and_eq_true, decide_eq_true_eq] at this
        exact this.2
      · rw [e2]
        intro hm2
        have := (hasB_iff chain p).2 (List.mem_of_mem_take hm2)
        rw [h2.2] at this
        cases this
def WidesPost (ok : Bool) (n : Nat) (F : Nat → Int) (w : World) (e : Ending) (w' : World) : Prop :=
  (if ok then ∃ g, e = .returned (.tuple #[.slice (some ⟨g, 0, none⟩) n n, .int .i64 0]) ∧ w.heap.size ≤ g ∧ w'.heap[g]? = some (.cells (wArr F n) 42)
    else e = .returned (.tuple #[.slice none 0 0, .int .i64 2])) ∧ Below w.heap.size w w'
theorem reads_keep {W W' : World} {B B' : Nat} {v : Value} {xs : List Value} (h : W.reads B v xs) (hB : B ≤ B') (hk : ∀ b, b < B → W'.heap[b]? = W.heap[b]?) : W'.reads B' v xs := by
  obtain ⟨a, cap, hv, hn, hz, hmx, hc⟩ := h
  refine ⟨a, cap, hv, hn, hz, hmx, fun j u hj => ?_⟩
  obtain ⟨b, off, ha, hb, hcell⟩ := hc j u hj
  exact ⟨b, off, ha, Nat.lt_of_lt_of_le hb hB, (World.cell?_of_block (a := ⟨b, off + j, none⟩) (hk b hb)).trans hcell⟩
set_option maxRecDepth 100000 in
set_option maxHeartbeats 16000000 in
theorem Wides_any (N pr pw wt er : Int) (cv : Value) (chain : List Nat) (sp : Nat) (la : Int) (sa : Bool) (av : Value) (xs : List (List Nat)) (w : World) (hr : w.reads w.heap.size cv (chain.map u32V)) (hrow : w.rows u32V w.heap.size av xs) (ok : Bool) (hok : ok = true ↔ checkB N chain sp la sa xs = true ∧ AllP (modl chain sp la.toNat sa)) :
    Calls Try.prog 14 #[.agg #[.int .i64 N, .int .u32 pr, .int .i64 pw, cv, .int .u32 (sp : Int), .int .i64 wt, .int .u32 er], .agg #[.int .i64 la, .bool sa, av]] w (WidesPost ok N.toNat (wC (modl chain sp la.toNat sa) xs) w) := by
  obtain ⟨W0, hW0⟩ : ∃ W0, W0 = ((((w.alloc (.cells #[.int .i64 N, .int .u32 pr, .int .i64 pw, cv, .int .u32 (sp : Int), .int .i64 wt, .int .u32 er] 25)).alloc (.cells #[.int .i64 la, .bool sa, av] 28)).alloc (.cells #[.slice none 0 0] 37)).alloc (.cells #[.int .i64 0] 34)) := ⟨_, rfl⟩
  have hB0 : Below w.heap.size w W0 := by rw [hW0]; exact ((((Below.refl _ w).alloc (Nat.le_refl _) _).alloc (by simp) _).alloc (by first | (simp; done) | (simp; omega)) _).alloc (by first | (simp; done) | (simp; omega)) _
  have hp0 : W0.heap[w.heap.size]? = some (.cells #[.int .i64 N, .int .u32 pr, .int .i64 pw, cv, .int .u32 (sp : Int), .int .i64 wt, .int .u32 er] 25) := by
    rw [hW0, Below.heap_alloc _ _ _ (by first | (simp; done) | (simp; omega)), Below.heap_alloc _ _ _ (by first | (simp; done) | (simp; omega)), Below.heap_alloc _ _ _ (by simp)]; exact alloc_last _ _ rfl
  have ha0 : W0.heap[w.heap.size + 1]? = some (.cells #[.int .i64 la, .bool sa, av] 28) := by
    rw [hW0, Below.heap_alloc _ _ _ (by first | (simp; done) | (simp; omega)), Below.heap_alloc _ _ _ (by simp)]; exact alloc_last _ _ (by simp)
  have hrc0 : W0.heap[w.heap.size + 1 + 1]? = some (.cells #[.slice none 0 0] 37) := by
    rw [hW0, Below.heap_alloc _ _ _ (by simp)]; exact alloc_last _ _ (by simp)
  have hc0 : W0.heap[w.heap.size + 1 + 1 + 1]? = some (.cells #[.int .i64 0] 34) := by
    rw [hW0]; exact alloc_last _ _ (by simp)
  have hz0 := lt_of_heap hc0
  have hr0 := (hr.below hB0).mono hB0.size
  have hrow0 := (hrow.below hB0).mono hB0.size
  have HCH := Lib.hid (checkE N pr pw wt er cv chain sp la sa av xs W0 hr0 hrow0)
  obtain ⟨aa, ac, rfl, hac, ham, hsh⟩ := hrow0.shape
  obtain ⟨pa, pc, rfl, -⟩ := reads_u32 hr0
  have HSH := Lib.hid hsh
  have HR0 := Lib.hid hr0
  have HROW0 := Lib.hid hrow0
  have HP0 := Lib.hid hp0
  have HA0 := Lib.hid ha0
  have HRC0 := Lib.hid hrc0
  have HC0 := Lib.hid hc0
  have HOK := Lib.hid hok
  have HW0 := Lib.hid hW0
  have HB0 := Lib.hid hB0
  obtain ⟨HPOST, hpost⟩ : ∃ R, R = WidesPost ok N.toNat (wC (modl chain sp la.toNat sa) xs) w := ⟨_, rfl⟩
  rw [← hpost]
  have HP := Lib.hid hpost
  clear hr hrow hr0 hrow0 hsh hok hW0 hB0 hpost
  have r0 : W0.cell? ⟨w.heap.size + 1 + 1, 0, none⟩ = some (.slice none 0 0) := by simp [World.cell?, hrc0]
  have r1 : W0.frozen? ⟨w.heap.size + 1 + 1, 0, none⟩ = false := by simp [World.frozen?, hrc0]
  have s0 : W0.cell? ⟨w.heap.size + 1 + 1 + 1, 0, none⟩ = some (.int .i64 0) := by simp [World.cell?, hc0]
  have s1 : W0.frozen? ⟨w.heap.size + 1 + 1 + 1, 0, none⟩ = false := by simp [World.frozen?, hc0]
  obtain ⟨c0, c1, c2, c3, c4, c5, c6⟩ := par_cells hp0
  obtain ⟨k0, k1, k2, -, -, -⟩ := elem_cells ha0
  clear hp0 ha0 hrc0 hc0
  unfold ErrPost errI at HCH
  obtain ⟨ck, hck⟩ : ∃ c, c = checkB N chain sp la sa xs := ⟨_, rfl⟩
  rw [← hck] at HCH
  have HCK := Lib.hid hck
  clear hck
  refine (callsIn_wide (n := 5)).1 ?_
  refine callsIn_of_wp_marks Try.func14 rfl trivial ?_ rfl
  simp only [Try.ntmps14, List.size_toArray, List.length_cons, List.length_nil, Nat.reduceAdd, Nat.reduceSub, Array.replicate_succ, Array.replicate_zero, List.push_toArray, List.append_toArray, List.nil_append, List.cons_append]
  gi_upto_region 1 with (fail)
  rw [← HW0.out]
  cases ck with
  | false =>
    obtain rfl : ok = false := by
      cases h : ok
      · rfl
      · have := (HOK.out.1 h).1
        rw [← HCK.out] at this; cases this
    gi_wp2_with fail
    refine ⟨trivial, (callsIn_wide.2 HCH.out).mono ?_⟩
    rintro e w1 ⟨rfl, hb1⟩
    have g1 := hold_heap HRC0.out hb1
    have g2 := hold_heap HC0.out hb1
    clear c0 c1 c2 c3 c4 c5 c6 k0 k1 k2 r0 r1 s0 s1
    have r0 : w1.cell? ⟨w.heap.size + 1 + 1, 0, none⟩ = some (.slice none 0 0) := by simp [World.cell?, g1]
    have r1 : w1.frozen? ⟨w.heap.size + 1 + 1, 0, none⟩ = false := by simp [World.frozen?, g1]
    have s0 : w1.cell? ⟨w.heap.size + 1 + 1 + 1, 0, none⟩ = some (.int .i64 0) := by simp [World.cell?, g2]
    have s1 : w1.frozen? ⟨w.heap.size + 1 + 1 + 1, 0, none⟩ = false := by simp [World.frozen?, g2]
    gi_wp2
    rw [HP.out]
    refine postM_ret (v := .tuple #[.slice none 0 0, .int .i64 2]) ?_ rfl ⟨rfl, ?_⟩
    · simp [results, Try.results14, go_sem, g1, g2, World.cell?, World.setCell, Array.getElem?_modify]
    · exact ((below_via HB0.out hb1).setCell (by simp; omega) _).setCell (by simp; omega) _
  | true =>
    obtain ⟨n, lv, rfl, rfl, i1, i2, i3, i4, i5, i6, i7⟩ := checkB_elt HCK.out.symm
    gi_wp2_with fail
    refine ⟨trivial, (callsIn_wide.2 HCH.out).mono ?_⟩
    rintro e w1 ⟨rfl, hb1⟩
    gi_upto_region 4 with (fail)
    obtain ⟨WL, hWL⟩ : ∃ W, W = w1.alloc (.cells #[.slice none 0 0] 23) := ⟨_, rfl⟩
    rw [← hWL]
    have hbL : Below w1.heap.size w1 WL := by rw [hWL]; exact (Below.refl _ _).alloc (Nat.le_refl _) _
    have hgL : WL.heap[w1.heap.size]? = some (.cells #[.slice none 0 0] 23) := by rw [hWL]; exact heap_alloc_new w1 _
    have HSZL : Hid (WL.heap.size = w1.heap.size + 1) := by show _ = _; rw [hWL]; simp
    have hbL0 : Below W0.heap.size W0 WL := below_via hb1 hbL
    have hpL := hold_heap HP0.out hbL0
    have haL := hold_heap HA0.out hbL0
    clear c0 c1 c2 c3 c4 c5 c6 k0 k1 k2 r0 r1 s0 s1 hWL
    obtain ⟨k0, k1, k2, -, -, -⟩ := elem_cells haL
    gi_wp2_with fail
    refine ⟨trivial, (moduli_in _ _ _ _ _).mono ?_⟩
    rintro e w2 ⟨rfl, rfl⟩
    gi_wp2_with fail
    obtain ⟨W2, hW2⟩ : ∃ W2, W2 = ((WL.alloc (.cells #[.pointer (some ⟨w.heap.size, 0, none⟩)] 63)).alloc (.cells #[.int .i64 (lv : Int)] 3)).alloc (.cells #[.bool sa] 4) := ⟨_, rfl⟩
    have hB2L : Below WL.heap.size WL W2 := by rw [hW2]; exact (((Below.refl _ WL).alloc (Nat.le_refl _) _).alloc (by simp) _).alloc (by simp; omega) _
    have m0 : W2.heap[WL.heap.size]? = some (.cells #[.pointer (some ⟨w.heap.size, 0, none⟩)] 63) := by
      rw [hW2, Below.heap_alloc _ _ _ (by simp; omega), Below.heap_alloc _ _ _ (by simp)]; exact alloc_last _ _ rfl
    have m1 : W2.heap[WL.heap.size + 1]? = some (.cells #[.int .i64 (lv : Int)] 3) := by
      rw [hW2, Below.heap_alloc _ _ _ (by simp)]; exact alloc_last _ _ (by simp)
    have m2 : W2.heap[WL.heap.size + 2]? = some (.cells #[.bool sa] 4) := by
      rw [hW2]; exact alloc_last _ _ (by simp)
    have hz2 := lt_of_heap m2
    have hszL := HSZL.out
    have hB20 : Below W0.heap.size W0 W2 := below_via hbL0 hB2L
    have hB2 : Below w.heap.size w W2 := below_via HB0.out hB20
    have hp2 := hold_heap HP0.out hB20
    have ha2 := hold_heap HA0.out hB20
    have hl2 := hold_heap hgL hB2L
    have hrc2 := hold_heap HRC0.out hB20
    have hcc2 := hold_heap HC0.out hB20
    have hr2 := HR0.out.below hB20
    have hs1 := hb1.size
    have hs2 := hB20.size
    rw [← hW2]
    clear hW2 k0 k1 k2
    have hSC := hr2.blk (by simp; omega)
    have hlbs : w1.heap.size < W2.heap.size := lt_of_heap hl2
    have hml : (modl chain sp lv sa).length ≤ 25 := by rw [modl_length _ _ _ _ i4]; cases sa <;> simp <;> omega
    obtain ⟨i0, hi0, hiz, hiz1, hizb⟩ := info_parts infoU32
    have hmax : ∀ x, modAt (modl chain sp lv sa) x < 4294967296 := fun x => by have := i6 _ (List.getElem_mem x.isLt); show (modl chain sp lv sa)[x.val] < _; omega
    have HST := moduli_stops 4 (by omega) WL.heap.size w.heap.size (fun b => b < W2.heap.size ∧ b ≠ w1.heap.size) (n : Int) pr pw wt er _ chain sp lv sa W0.heap.size i4 (by omega) W2 (fun _ h => h.1) ⟨by omega, by omega⟩ ⟨by omega, by omega⟩ ⟨by omega, by omega⟩ ⟨by omega, by omega⟩
        (fun a n c b off h1 h2 => by have := hSC a n c b off h1 h2; omega) m0 m1 m2 hp2 hr2
    have HI0 : WideI w W2 w1.heap.size (modAt (modl chain sp lv sa)) [] W2 := ⟨⟨_, hl2, World.owns_nil _ _ _ _⟩, by simp, KeepP.refl _, hB2, Nat.le_refl _⟩
    have HOX : OwnFrom W2.heap.size (fun (pre : List (Fin (modl chain sp lv sa).length)) W => (∃ x ∈ pre, ¬ PrimeP (modAt (modl chain sp lv sa) x)) ∧ W.heap[w.heap.size + 1 + 1]? = some (.cells #[.slice none 0 0] 37) ∧ W.heap[w.heap.size + 1 + 1 + 1]? = some (.cells #[.int .i64 2] 34) ∧ Below w.heap.size w W) :=
      (ownFrom_pure _ _).and ((ownFrom_cells _ _ (fun _ => w.heap.size + 1 + 1) (fun _ => #[.slice none 0 0]) 37 (0, 0) (fun _ _ h => h) (fun _ _ h => h)).and ((ownFrom_cells _ _ (fun _ => w.heap.size + 1 + 1 + 1) (fun _ => #[.int .i64 2]) 34 (0, 0) (fun _ _ h => h) (fun _ _ h => h)).and (ownFrom_below (Nat.le_refl _) hB2.size)))
    have HOI := wideI_own w W2 w1.heap.size hlbs hB2.size (modAt (modl chain sp lv sa))
    refine wpIn_range_tmp (n := 5) (by omega) ?hg ?eg (S := fun b => b < W2.heap.size ∧ b ≠ w1.heap.size) (w := W2) (fun _ h => h.1) HST ?hps
      (WideI w W2 w1.heap.size (modAt (modl chain sp lv sa)))
      (fun pre W => (∃ x ∈ pre, ¬ PrimeP (modAt (modl chain sp lv sa) x)) ∧ W.heap[w.heap.size + 1 + 1]? = some (.cells #[.slice none 0 0] 37) ∧ W.heap[w.heap.size + 1 + 1 + 1]? = some (.cells #[.int .i64 2] 34) ∧ Below w.heap.size w W)
      HOI HOX HI0
      (fun x => [(25, .int .i64 (x.val : Int)), (26, .int .u32 (modAt (modl chain sp lv sa) x : Int)), (8, .int .u32 (modAt (modl chain sp lv sa) x : Int))])
      ?assign ?body ?done ?stop
    case hg => rfl
    case eg => exact enters_of Try.func83 (by kernel_rfl) rfl
    case hps => intro x; rfl
    case assign =>
      intro l pre x W K hK
      unfold ModEnc
      gi_wp2
    case stop =>
      intro D pre W hD hpre hI hdf
      obtain ⟨⟨x, hx, hxp⟩, h1, h2, h3⟩ := hI
      obtain rfl : ok = false := by
        cases h : ok
        · rfl
        · exact absurd ((HOK.out.1 h).2 _ (List.getElem_mem x.isLt)) hxp
      have hD1 : w.heap.size + 1 + 1 ≠ D := by have := hB2.size; omega
      have hD2 : w.heap.size + 1 + 1 + 1 ≠ D := by have := hB2.size; omega
      rw [HP.out]
      refine postM_mark (v := .tuple #[.slice none 0 0, .int .i64 2]) hdf ?_ rfl ⟨rfl, ?_⟩
      · have hh1 := heap_putObj_ne (w := W) (Obj.deferred none) hD1
        have hh2 := heap_putObj_ne (w := W) (Obj.deferred none) hD2
        have y1 : (W.putObj D (.deferred none)).cell? ⟨w.heap.size + 1 + 1, 0, none⟩ = some (.slice none 0 0) := by simp [World.cell?, hh1, h1]
        have y2 : (W.putObj D (.deferred none)).cell? ⟨w.heap.size + 1 + 1 + 1, 0, none⟩ = some (.int .i64 2) := by simp [World.cell?, hh2, h2]
        simp [results, Try.results14, go_sem, y1, y2]
      · exact h3.trans (belowK_b (w := w) (Nat.le_refl _) _ D _ _ (by have := hB2.size; omega) hdf rfl rfl)
    case body =>
      intro l pre x W hl hI hN
      simp only [List.foldl_cons, List.foldl_nil, List.setIfInBounds_toArray, List.set_cons_succ, List.set_cons_zero]
      obtain ⟨⟨sv, h1, h2⟩, h3, h4, h5, h6⟩ := hI
      obtain ⟨q, hq⟩ : ∃ q, q = modAt (modl chain sp lv sa) x := ⟨_, rfl⟩
      have hqm := hmax x
      rw [← hq] at hqm
      obtain ⟨pr0, hpr⟩ := em_bool (PrimeP q)
      have HPRM := Lib.hid (Prime_any q hqm pr0 hpr W)
      have HPR := Lib.hid hpr
      have HQ := Lib.hid hq
      have hpl : pre.length ≤ 25 := by omega
      rw [← hq]
      clear hpr hq
      gi_wp2_with fail
      refine ⟨trivial, CallsIn.inRound l ((callsIn_wide.2 HPRM.out).mono ?_)⟩
      rintro e W3 ⟨rfl, hb3⟩
      have hz3 := hb3.size
      cases pr0 with
      | false =>
        have g1 : W3.heap[w.heap.size + 1 + 1]? = some (.cells #[.slice none 0 0] 37) := hold_heap ((h4 _ ⟨by omega, by omega⟩).trans hrc2) hb3
        have g2 : W3.heap[w.heap.size + 1 + 1 + 1]? = some (.cells #[.int .i64 0] 34) := hold_heap ((h4 _ ⟨by omega, by omega⟩).trans hcc2) hb3
        have y1 : W3.cell? ⟨w.heap.size + 1 + 1, 0, none⟩ = some (.slice none 0 0) := by simp [World.cell?, g1]
        have y2 : W3.cell? ⟨w.heap.size + 1 + 1 + 1, 0, none⟩ = some (.int .i64 0) := by simp [World.cell?, g2]
        have y3 : W3.frozen? ⟨w.heap.size + 1 + 1, 0, none⟩ = false := by simp [World.frozen?, g1]
        have y4 : W3.frozen? ⟨w.heap.size + 1 + 1 + 1, 0, none⟩ = false := by simp [World.frozen?, g2]
        gi_wp2
        refine ⟨keepsFrom_setCell (keepsFrom_setCell (keepsFrom_below hb3) _ _) _ _, rfl, ⟨x, by simp, fun h => ?_⟩, ?_, ?_, ?_⟩
        · rw [← HQ.out] at h
          have := HPR.out.2 h
          cases this
        · simp [World.setCell, Array.getElem?_modify, g1]
        · simp [World.setCell, Array.getElem?_modify, g2]
        · exact ((below_via h5 hb3).setCell (by simp; omega) _).setCell (by simp; omega) _
      | true =>
        have g1 : W3.heap[w1.heap.size]? = some (.cells #[sv] 23) := hold_heap h1 hb3
        have y1 : W3.cell? ⟨w1.heap.size, 0, none⟩ = some sv := by simp [World.cell?, g1]
        have hown3 := h2.below hb3
        have hB3 := below_via h5 hb3
        gi_wp2_with (gi_at_builtin; refine wpListIn_append1 W3 rfl (.tmp 30) (.tmp 32) 23 rfl W2.heap.size 22 i0 (.int .u32 0) 4 Try.underlying23 hi0 hiz hiz1 hizb rfl sv pre.length _ rfl hown3 (.int .u32 (q : Int)) W3.heap.size rfl rfl rfl (by unfold maxLen; omega) (by omega) (by omega) ?_; intro v4 W4 hown4 hg4a hg4 hz4; obtain ⟨g4, cap4, rfl⟩ := hown4.succ; have h14 : W4.heap[w1.heap.size]? = some (.cells #[sv] 23) := (hg4.block _ (by omega) (by intro e; have := hown3.lt _ e.symm; omega)).trans g1; have e24 : W4.cell? ⟨w1.heap.size, 0, none⟩ = some sv := (by simp [World.cell?, h14]); have f24 : W4.frozen? ⟨w1.heap.size, 0, none⟩ = false := (by simp only [World.frozen?, h14]; rfl))
        have hold : ∀ b, b < W.heap.size → W3.heap[b]? = W.heap[b]? := fun b hb => hb3.block b hb
        have hk4 : ∀ (g : Nat), g < W3.heap.size → (∀ k, sv.ownBlock = some k → g ≠ k) → W4.heap[g]? = W3.heap[g]? := fun g hg hne => hg4.block g hg (fun e => hne g e.symm rfl)
        have hown5 := hown4.setCell (a := ⟨w1.heap.size, 0, none⟩) (by simp; omega) (.slice (some ⟨g4, 0, none⟩) (pre.length + 1) cap4)
        have hB4 : Below w.heap.size w W4 := hB3.grown hg4 hB3.size (fun k e => by have := hown3.lt _ e; have := hB2.size; omega)
        have hkf4 : KeepsFrom W2.heap.size W W4 := ⟨by omega, fun k o hk1 hk2 ho => by
          rw [hk4 k (by have := lt_of_heap hk2; omega) (fun k' hk' e => by
            subst e
            rcases hown3.2 with ⟨h, _⟩ | ⟨g', cap', cur, fz, h, _, hgg, _⟩
            · rw [h] at hk'; simp [Value.ownBlock] at hk'
            · rw [h] at hk'; simp [Value.ownBlock] at hk'
              subst hk'
              rw [hold _ (lt_of_heap hk2), hk2] at hgg
              injection hgg with hgg
              subst hgg
              cases ho), hold k (lt_of_heap hk2)]; exact hk2⟩
        refine ⟨keepsFrom_setCell hkf4 _ _, ?_, ⟨⟨.slice (some ⟨g4, 0, none⟩) (pre.length + 1) cap4, ?_, ?_⟩, ?_, ?_, hB4.setCell (by simp; omega) _, by simp; omega⟩⟩
        · exact KeepP.setCell (fun b hb => (hk4 b (by have := hb.1; omega) (fun k hk' e => by have := hown3.lt _ hk'; have := hb.1; omega)).trans (hold b (by have := hb.1; omega))) (by simp) _
        · simp [World.setCell, Array.getElem?_modify, h14]
        · rw [HQ.out] at hown5
          simpa [u32V] using hown5
        · intro y hy
          rcases List.mem_append.1 hy with hy | hy
          · exact h3 y hy
          · obtain rfl := List.mem_singleton.1 hy
            rw [← HQ.out]; exact HPR.out.1 (by first | rfl | trivial)
        · exact KeepP.setCell (fun b hb => (hk4 b (by have := hb.1; omega) (fun k hk' e => by have := hown3.lt _ hk'; have := hb.1; omega)).trans ((hold b (by have := hb.1; omega)).trans (h4 b hb))) (by simp) _
    case done =>
      intro D W hD hI hdf
      obtain ⟨⟨sv, h1, h2⟩, h3, h4, h5, h6⟩ := hI
      obtain ⟨ml, hmlE⟩ : ∃ ml, ml = modl chain sp lv sa := ⟨_, rfl⟩
      have hA : AllP (modl chain sp lv sa) := fun q hq => by
        obtain ⟨i, hi, rfl⟩ := List.getElem_of_mem hq
        exact h3 ⟨i, hi⟩ (List.mem_finRange _)
      obtain rfl : ok = true := HOK.out.2 ⟨HCK.out.symm, hA⟩
      have hsys : SysP ml := by
        rw [hmlE]
        have hck := HCK.out.symm
        unfold checkB preB at hck
        simp only [Bool.and_eq_true] at hck
        exact sys_modl hck.1.1 hck.1.2 hA
      have hmap : (List.finRange (modl chain sp lv sa).length).map (modAt (modl chain sp lv sa)) = ml := by
        rw [hmlE]
        have := finRange_map (modl chain sp lv sa) (fun q => q)
        simpa using this
      rw [hmap, List.length_finRange, ← hmlE] at h2
      rw [← hmlE] at i7
      have HELT := Lib.hid i7
      have HSYS := Lib.hid hsys
      obtain ⟨L, hL⟩ : ∃ L, L = ml.length := ⟨_, rfl⟩
      have HL := Lib.hid hL
      have hL25 : L ≤ 25 := by rw [hL, hmlE]; exact hml
      have hL1 : 1 ≤ L := by rw [hL]; exact hsys.1
      have hxl : xs.length = L := by rw [hL]; exact i7.1
      rw [← hL] at h2
      have hNEW := New_any ml sv W h2.reads (fun p hp => by have := (hsys.sep.mem hp).2.2; omega) true ⟨fun _ => hsys, fun _ => rfl⟩
      have HNEW := Lib.hid hNEW
      have HPK : Hid (HPOST = WidesPost true n (wC ml xs) w) := by show _ = _; rw [HP.out, hmlE]; rfl
      have hpW : W.heap[w.heap.size]? = some (.cells #[.int .i64 (n : Int), .int .u32 pr, .int .i64 pw, .slice pa chain.length pc, .int .u32 (sp : Int), .int .i64 wt, .int .u32 er] 25) := (h4 _ ⟨by omega, by omega⟩).trans hp2
      have haW : W.heap[w.heap.size + 1]? = some (.cells #[.int .i64 (lv : Int), .bool sa, .slice aa xs.length ac] 28) := (h4 _ ⟨by omega, by omega⟩).trans ha2
      have hrcW : W.heap[w.heap.size + 1 + 1]? = some (.cells #[.slice none 0 0] 37) := (h4 _ ⟨by omega, by omega⟩).trans hrc2
      have hccW : W.heap[w.heap.size + 1 + 1 + 1]? = some (.cells #[.int .i64 0] 34) := (h4 _ ⟨by omega, by omega⟩).trans hcc2
      have HXW : Hid (∀ (j : Nat) (r : List Nat), xs[j]? = some r → ∃ b off b2 c2, aa = some ⟨b, off, none⟩ ∧ b < W.heap.size ∧ W.cell? ⟨b, off + j, none⟩ = some (.slice b2 r.length c2) ∧ W.reads W.heap.size (.slice b2 r.length c2) (r.map u32V)) := fun j r hj => by
        obtain ⟨b, off, b2, c2, e1, e2, e3, e4⟩ := HSH.out j r hj
        have hkk : ∀ g, g < W0.heap.size → W.heap[g]? = W0.heap[g]? := fun g hg => (h4 g ⟨by omega, by omega⟩).trans (hB20.block g hg)
        exact ⟨b, off, b2, c2, e1, by omega, (World.cell?_of_block (a := ⟨b, off + j, none⟩) (hkk b e2)).trans e3, reads_keep e4 (by omega) hkk⟩
      have y1 : W.cell? ⟨w1.heap.size, 0, none⟩ = some sv := by simp [World.cell?, h1]
      have HPW := Lib.hid hpW
      have HAW := Lib.hid haW
      have HRCW := Lib.hid hrcW
      have HCCW := Lib.hid hccW
      have HLW := Lib.hid h1
      have HDF := Lib.hid hdf
      have H5 := Lib.hid h5
      have hDl := lt_of_heap hdf
      have hs6 := H5.out.size
      have hlW : w1.heap.size < W.heap.size := lt_of_heap h1
      obtain ⟨sa', sc', rfl⟩ := reads_len h2.reads
      rw [List.length_map, ← hL] at y1 HLW HNEW
      clear h1 h2 h3 h4 h5 h6 hdf hpW haW hrcW hccW hNEW hA hsys hmap hL hmlE i6 i7 HST HI0 HOX HOI hmax hSC m0 m1 m2 hp2 ha2 hl2 hrc2 hcc2 hr2 hB20 hB2L hbL hgL hbL0 hpL haL HCH hB2
      gi_wp2_with fail
      refine ⟨trivial, (callsIn_wide.2 HNEW.out).mono ?_⟩
      rintro e w5 ⟨hb5, he5, hs5⟩
      subst he5
      obtain ⟨b, hbd⟩ : ∃ b, b = W.heap.size := ⟨_, rfl⟩
      rw [← hbd] at hs5 ⊢
      have HS5 := Lib.hid hs5
      have HB5 := Lib.hid hb5
      have hz5 := hb5.size
      have c0 : w5.cell? ⟨w.heap.size, 0, none⟩ = some (.int .i64 (n : Int)) := (par_cells (hold_heap HPW.out hb5)).1
      have y2 : w5.cell? ⟨w1.heap.size, 0, none⟩ = some (.slice sa' L sc') := by
        have := hold_heap HLW.out hb5
        simp [World.cell?, this]
      have hmkW := make_wide n (by omega) (wC ml xs)
      have hmkL := make_u32 L (by omega)
      clear y1 hs5 hbd HNEW hb5
      gi_upto_region 13 with (fail)
      obtain ⟨oW, hoW⟩ : ∃ o, o = w5.heap.size := ⟨_, rfl⟩
      have hb6 : Below w5.heap.size w5 (w5.alloc (.cells (wPart (wC ml xs) n 0) 42)) := (Below.refl _ _).alloc (Nat.le_refl _) _
      have hg6 : (w5.alloc (.cells (wPart (wC ml xs) n 0) 42)).heap[oW]? = some (.cells (wPart (wC ml xs) n 0) 42) := by rw [hoW]; exact heap_alloc_new w5 _
      rw [← hoW]
      generalize w5.alloc (.cells (wPart (wC ml xs) n 0) 42) = w6 at hb6 hg6 ⊢
      have hz6 := lt_of_heap hg6
      have y3 : w6.cell? ⟨w1.heap.size, 0, none⟩ = some (.slice sa' L sc') := (hb6.cell (p := ⟨w1.heap.size, 0, none⟩) (by show w1.heap.size < _; omega)).trans y2
      clear c0 y2 hmkW
      gi_upto_region 14 with (fail)
      obtain ⟨cB, hcB⟩ : ∃ o, o = w6.heap.size := ⟨_, rfl⟩
      have hb7 : Below w6.heap.size w6 (w6.alloc (.cells (zrow L) 22)) := (Below.refl _ _).alloc (Nat.le_refl _) _
      have hg7 : (w6.alloc (.cells (zrow L) 22)).heap[cB]? = some (.cells (zrow L) 22) := by rw [hcB]; exact heap_alloc_new w6 _
      rw [← hcB]
      generalize w6.alloc (.cells (zrow L) 22) = w7 at hb7 hg7 ⊢
      rw [nrow_zero] at hg7
      have hoc : oW < cB := by omega
      have HB7 := Lib.hid (below_via hb6 hb7)
      have HO7 := Lib.hid (hold_heap hg6 hb7)
      have HC7 := Lib.hid hg7
      have hoW5 : w5.heap.size ≤ oW := by omega
      clear y3 hmkL hb6 hg6 hb7 hg7 hoW hcB hz6
      gi_wp2_with fail
      gi_loopw [49] (fun iv wr => ∃ j : Nat, j ≤ n ∧ iv = .int .i64 (j : Int) ∧ Hid (Below w5.heap.size w5 wr) ∧ Hid (wr.heap[oW]? = some (.cells (wPart (wC ml xs) n j) 42)) ∧ Hid (∃ f : Nat → Nat, wr.heap[cB]? = some (.cells (nrow f L) 22))) (fun iv _ => n - (intOf iv).toNat)
      case atStart => exact ⟨0, Nat.zero_le _, rfl, HB7.out, HO7.out, ⟨_, HC7.out⟩⟩
      case round =>
        obtain ⟨j, hj, rfl, HBr, HOr, HCr⟩ := hrel
        obtain ⟨wo, rfl⟩ : ∃ x, x = wr := ⟨_, rfl⟩
        by_cases hlt : j < n
        · have hBo := below_via HB5.out HBr.out
          obtain ⟨-, -, k2, -, -, -⟩ := elem_cells (hold_heap HAW.out hBo)
          have j1 : (j : Int) < (n : Int) := by omega
          have j2 : (0 : Int) ≤ (j : Int) := by omega
          gi_wp2_with fail
          gi_loopw [55] (fun iv wx => ∃ i : Nat, i ≤ L ∧ iv = .int .i64 (i : Int) ∧ Hid (Below w5.heap.size w5 wx) ∧ Hid (wx.heap[oW]? = some (.cells (wPart (wC ml xs) n j) 42)) ∧ Hid (∃ f : Nat → Nat, wx.heap[cB]? = some (.cells (nrow f L) 22) ∧ ∀ i', i' < i → f i' = (xs.getD i' []).getD j 0)) (fun iv _ => L - (intOf iv).toNat)
          case atStart =>
            obtain ⟨f, hf⟩ := HCr.out
            exact ⟨0, Nat.zero_le _, rfl, HBr.out, HOr.out, ⟨f, hf, fun i' h => by omega⟩⟩
          case round =>
            obtain ⟨i, hi, rfl, HBi, HOi, HCi⟩ := hrel
            obtain ⟨wi, rfl⟩ : ∃ x, x = wr := ⟨_, rfl⟩
            by_cases hil : i < L
            · obtain ⟨rr, hrr⟩ : ∃ r, xs[i]? = some r := ⟨xs[i]'(by omega), List.getElem?_eq_getElem _⟩
              obtain ⟨hrl, -⟩ := HELT.out.2 i rr hrr
              obtain ⟨rb, ro, b2, c2, rfl, hrb, hcl, hrd⟩ := HXW.out i rr hrr
              obtain ⟨v, hv⟩ : ∃ v, rr[j]? = some v := ⟨rr[j]'(by omega), List.getElem?_eq_getElem _⟩
              rw [hrl] at hcl hrd
              obtain ⟨xa, xc, he, x1, x2, x3⟩ := reads_u32 hrd
              injection he with he1 he2 he3
              subst he1 he3
              obtain ⟨xb, xo, rfl, hxb, hxc⟩ := x3 j v hv
              rw [hrl] at x1
              have hBi := below_via HB5.out HBi.out
              have d0 : wi.cell? ⟨rb, ro + i, none⟩ = some (.slice (some ⟨xb, xo, none⟩) n c2) := (hBi.cell (p := ⟨rb, ro + i, none⟩) hrb).trans hcl
              have d1 : wi.cell? ⟨xb, xo + j, none⟩ = some (.int .u32 (v : Int)) := (hBi.cell (p := ⟨xb, xo + j, none⟩) hxb).trans hxc
              obtain ⟨f, hf, hfall⟩ := HCi.out
              have d2 : wi.cell? ⟨cB, i, none⟩ = some (.int .u32 (f i : Int)) := by rw [cell_of_row wi cB i _ _ (0, 0) hf]; exact nrow_get _ _ _ hil
              have d3 : wi.frozen? ⟨cB, i, none⟩ = false := by simp [World.frozen?, hf]
              have HC2 : Hid (∃ f : Nat → Nat, (wi.setCell ⟨cB, i, none⟩ (.int .u32 (v : Int))).heap[cB]? = some (.cells (nrow f L) 22) ∧ ∀ i', i' < i + 1 → f i' = (xs.getD i' []).getD j 0) := by
                refine ⟨fun c => if c = i then v else f c, ?_, fun i' h => ?_⟩
                · rw [← nrow_set]; simp [World.setCell, Array.getElem?_modify, hf]
                · by_cases e : i' = i
                  · subst e
                    have g1 : xs.getD i' [] = rr := by rw [List.getD_eq_getElem?_getD, hrr]; rfl
                    have g2 : rr.getD j 0 = v := by rw [List.getD_eq_getElem?_getD, hv]; rfl
                    simp only [if_true, g1, g2]
                  · simp only [e, if_false]; exact hfall i' (by omega)
              have HB2 : Hid (Below w5.heap.size w5 (wi.setCell ⟨cB, i, none⟩ (.int .u32 (v : Int)))) := HBi.out.setCell (by simp; omega) _
              have HO2 : Hid ((wi.setCell ⟨cB, i, none⟩ (.int .u32 (v : Int))).heap[oW]? = some (.cells (wPart (wC ml xs) n j) 42)) := (Below.heap_setCell _ _ _ _ (by simp; omega)).trans HOi.out
              have i1' : (i : Int) < (L : Int) := by omega
              have i2' : (0 : Int) ≤ (i : Int) := by omega
              clear hrr hrl hcl hrd hv x1 x3 hxc hf hfall HCi
              gi_upto_region 21 with (fail)
              generalize wi.setCell ⟨cB, i, none⟩ (.int .u32 (v : Int)) = wn at HC2 HB2 HO2 ⊢
              clear d0 d1 d2 d3
              gi_wp2_with fail
              go_roundw
              case rel => exact ⟨i + 1, by omega, by go_num, HB2.out, HO2.out, HC2.out⟩
              case measure => simp [intOf]; omega
            · obtain rfl : i = L := by omega
              obtain ⟨f, hf, hfall⟩ := HCi.out
              have hcol : nrow f i = ((colL xs j).map u32V).toArray := by
                unfold nrow colL
                congr 1
                apply List.ext_getElem
                · simp [hxl]
                · intro k h1 h2
                  have hk : k < i := by simpa using h1
                  have hkx : k < xs.length := by omega
                  have hg : xs.getD k [] = xs[k] := by rw [List.getD_eq_getElem?_getD, List.getElem?_eq_getElem hkx]; rfl
                  simp only [List.getElem_map, List.getElem_range]
                  rw [hfall k hk, hg]
                  rfl
              have HCN : Hid (∃ f : Nat → Nat, wi.heap[cB]? = some (.cells (nrow f i) 22)) := ⟨f, hf⟩
              rw [hcol] at hf
              have hcll : (colL xs j).length = i := by unfold colL; rw [List.length_map, hxl]
              have hrdc : wi.reads wi.heap.size (.slice (some ⟨cB, 0, none⟩) i i) ((colL xs j).map u32V) := by
                have := reads_block hf (lt_of_heap hf) i (by simp [hcll]) (by unfold maxLen; omega)
                simpa [hcll] using this
              have hJ := Join_any b ml (colL xs j) _ wi (HS5.out.below HBi.out) HSYS.out hrdc true ⟨fun _ => col_row HELT.out hlt, fun _ => rfl⟩
              rw [if_pos rfl, if_pos rfl] at hJ
              unfold FormE at hJ
              obtain ⟨jb, hjb⟩ : ∃ z, z = zN (wC ml xs j) := ⟨_, rfl⟩
              obtain ⟨jt, hjt⟩ : ∃ z, z = zT (wC ml xs j) := ⟨_, rfl⟩
              have HJ : Hid (Calls Try.prog 51 #[.pointer (some ⟨b, 0, none⟩), .slice (some ⟨cB, 0, none⟩) i i] wi fun e w' => e = .returned (.tuple #[.agg #[.bool jb, .string jt], .int .i64 0]) ∧ Below wi.heap.size wi w') := by rw [hjb, hjt]; exact hJ
              have HJB := Lib.hid hjb
              have HJT := Lib.hid hjt
              have HF := Lib.hid hf
              clear hf hfall hcol hcll hrdc hJ hjb hjt HCi
              gi_wp2_with fail
              refine ⟨trivial, (callsIn_wide.2 HJ.out).mono ?_⟩
              rintro e w8 ⟨rfl, hb8⟩
              have HB8 := Lib.hid (below_via HBi.out hb8)
              have hO8 := hold_heap HOi.out hb8
              have HC8 : Hid (∃ f : Nat → Nat, w8.heap[cB]? = some (.cells (nrow f i) 22)) := by
                obtain ⟨f, hf⟩ := HCN.out
                exact ⟨f, hold_heap hf hb8⟩
              have d0 : ∃ u, w8.cell? ⟨oW, j * 2, none⟩ = some u := ⟨_, by rw [cell_of_row w8 oW (j * 2) _ _ (0, 0) hO8]; exact wPart_get (by omega)⟩
              obtain ⟨u0, d0⟩ := d0
              have d1 : ∃ u, w8.cell? ⟨oW, j * 2 + 1, none⟩ = some u := ⟨_, by rw [cell_of_row w8 oW (j * 2 + 1) _ _ (0, 0) hO8]; exact wPart_get (by omega)⟩
              obtain ⟨u1, d1⟩ := d1
              have d2 : ∀ o, w8.frozen? ⟨oW, o, none⟩ = false := fun o => by simp [World.frozen?, hO8]
              have d3 := d2 (j * 2)
              have d4 := d2 (j * 2 + 1)
              have HO8 := Lib.hid hO8
              clear hb8 hO8 d2
              gi_upto_region 23 with (fail)
              have HB9 : Hid (Below w5.heap.size w5 ((w8.setCell ⟨oW, j * 2, none⟩ (.bool jb)).setCell ⟨oW, j * 2 + 1, none⟩ (.string jt))) := (HB8.out.setCell (by simp; omega) _).setCell (by simp; omega) _
              have HO9 : Hid (((w8.setCell ⟨oW, j * 2, none⟩ (.bool jb)).setCell ⟨oW, j * 2 + 1, none⟩ (.string jt)).heap[oW]? = some (.cells (wPart (wC ml xs) n (j + 1)) 42)) := by
                show _ = _
                rw [← wPart_set hlt, ← HJB.out, ← HJT.out, Nat.mul_comm 2 j]
                simp [World.setCell, Array.getElem?_modify, HO8.out]
              have HC9 : Hid (∃ f : Nat → Nat, ((w8.setCell ⟨oW, j * 2, none⟩ (.bool jb)).setCell ⟨oW, j * 2 + 1, none⟩ (.string jt)).heap[cB]? = some (.cells (nrow f i) 22)) := by
                obtain ⟨f, hf⟩ := HC8.out
                refine ⟨f, ?_⟩
                rw [Below.heap_setCell _ _ _ _ (by simp; omega), Below.heap_setCell _ _ _ _ (by simp; omega)]
                exact hf
              generalize (w8.setCell ⟨oW, j * 2, none⟩ (.bool jb)).setCell ⟨oW, j * 2 + 1, none⟩ (.string jt) = w9 at HB9 HO9 HC9 ⊢
              clear d0 d1 d3 d4
              gi_wp2_with fail
              go_roundw
              case rel => exact ⟨j + 1, by omega, by go_num, HB9.out, HO9.out, HC9.out⟩
              case measure => simp [intOf]; omega
        · obtain rfl : j = n := by omega
          have hBo := below_via HB5.out HBr.out
          have g1 := hold_heap HRCW.out hBo
          have g2 := hold_heap HCCW.out hBo
          have hdf := HDF.out
          have hdf2 : wo.heap[D]? = some (.deferred (some [])) := hold_heap hdf hBo
          have r0 : wo.cell? ⟨w.heap.size + 1 + 1, 0, none⟩ = some (.slice none 0 0) := by simp [World.cell?, g1]
          have r1 : wo.frozen? ⟨w.heap.size + 1 + 1, 0, none⟩ = false := by simp [World.frozen?, g1]
          have s0 : wo.cell? ⟨w.heap.size + 1 + 1 + 1, 0, none⟩ = some (.int .i64 0) := by simp [World.cell?, g2]
          have s1 : wo.frozen? ⟨w.heap.size + 1 + 1 + 1, 0, none⟩ = false := by simp [World.frozen?, g2]
          have hDs : w.heap.size + 1 + 1 + 1 < D := by omega
          have hoW2 : w.heap.size ≤ oW := by have := H5.out.size; have := HB5.out.size; omega
          have hlo := lt_of_heap HOr.out
          gi_wp2
          have hDo : D ≠ oW := by omega
          obtain ⟨wz, hwz⟩ : ∃ W, W = (wo.setCell ⟨w.heap.size + 1 + 1, 0, none⟩ (.slice (some ⟨oW, 0, none⟩) j j)).setCell ⟨w.heap.size + 1 + 1 + 1, 0, none⟩ (.int .i64 0) := ⟨_, rfl⟩
          have hBz : Below w.heap.size w wz := by rw [hwz]; exact (((below_via H5.out hBo)).setCell (by simp; omega) _).setCell (by simp; omega) _
          have hz1 : wz.heap[w.heap.size + 1 + 1]? = some (.cells #[.slice (some ⟨oW, 0, none⟩) j j] 37) := by
            rw [hwz, Below.heap_setCell _ _ _ _ (by simp)]; simp [World.setCell, Array.getElem?_modify, g1]
          have hz2' : wz.heap[w.heap.size + 1 + 1 + 1]? = some (.cells #[.int .i64 0] 34) := by
            rw [hwz]; simp [World.setCell, Array.getElem?_modify, g2]
          have hz3 : wz.heap[oW]? = some (.cells (wPart (wC ml xs) j j) 42) := by
            rw [hwz, Below.heap_setCell _ _ _ _ (by simp; omega), Below.heap_setCell _ _ _ _ (by simp; omega)]; exact HOr.out
          have hz4 : wz.heap[D]? = some (.deferred (some [])) := by
            rw [hwz, Below.heap_setCell _ _ _ _ (by simp; omega), Below.heap_setCell _ _ _ _ (by simp; omega)]; exact hdf2
          rw [← hwz, HPK.out]
          refine postM_mark (v := .tuple #[.slice (some ⟨oW, 0, none⟩) j j, .int .i64 0]) hz4 ?_ rfl ⟨?_, ?_⟩
          · have hh1 := heap_putObj_ne (w := wz) (Obj.deferred none) (show w.heap.size + 1 + 1 ≠ D by omega)
            have hh2 := heap_putObj_ne (w := wz) (Obj.deferred none) (show w.heap.size + 1 + 1 + 1 ≠ D by omega)
            have y1 : (wz.putObj D (.deferred none)).cell? ⟨w.heap.size + 1 + 1, 0, none⟩ = some (.slice (some ⟨oW, 0, none⟩) j j) := by simp [World.cell?, hh1, hz1]
            have y2 : (wz.putObj D (.deferred none)).cell? ⟨w.heap.size + 1 + 1 + 1, 0, none⟩ = some (.int .i64 0) := by simp [World.cell?, hh2, hz2']
            simp [results, Try.results14, go_sem, y1, y2]
          · rw [if_pos rfl]
            exact ⟨oW, rfl, hoW2, (heap_putObj_ne (w := wz) (Obj.deferred none) (Ne.symm hDo)).trans hz3⟩
          · exact hBz.trans (belowK_b (w := w) (Nat.le_refl _) _ D _ _ (by omega) hz4 rfl rfl)
end Go.Proofs.Ytkjlfjnncdkmlaa.G

/- Walks: the norm of an element (the program's). -/
namespace Go.Proofs.Ytkjlfjnncdkmlaa.G
set_option linter.all false
open Go.RowKit Go.Shelf Go.BigFrame Go.WideNum
attribute [local go_sem] Oper.semAt_some
theorem abs_form {x : Int} : zT x = zT ((x.natAbs : Nat) : Int) := by unfold zT; rw [Int.natAbs_natCast]
theorem zN_nat (n : Nat) : zN (n : Int) = false := decide_eq_false (by omega)
theorem Max_z (a : Nat) (x : Int) (ha : InR (a : Int)) (hx : InR x) (w : World) :
    Calls Try.prog 74 #[.agg #[.bool false, .string (zT (a : Int))], .agg #[.bool false, .string (zT x)]] w fun e w' => e = .returned (.tuple #[.agg #[.bool false, .string (zT ((max a x.natAbs : Nat) : Int))], .int .i64 0]) ∧ Below w.heap.size w w' := by
  have hx' : InR ((x.natAbs : Nat) : Int) := by unfold InR at *; rw [Int.natAbs_natCast]; exact hx
  rw [abs_form (x := x)]
  have h := Max_any false (zT (a : Int)) false (zT ((x.natAbs : Nat) : Int)) (z_size ha) (z_size hx') w
  have e : maxF false (zT (a : Int)) false (zT ((x.natAbs : Nat) : Int)) = (false, zT ((max a x.natAbs : Nat) : Int), 0) := by
    have v1 := z_valid ha
    have v2 := z_valid hx'
    rw [zN_nat] at v1 v2
    unfold maxF cmpF
    rw [v1.1, v2.1, v1.2, v2.2]
    unfold cmpZ
    by_cases h1 : (a : Int) < ((x.natAbs : Nat) : Int)
    · rw [Nat.max_eq_right (by omega)]; simp [h1]
    · rw [Nat.max_eq_left (by omega)]
      by_cases h2 : ((x.natAbs : Nat) : Int) < (a : Int)
      · simp [h1, h2]
      · simp [h1, h2]
  rw [e] at h
  exact h
theorem inR_maxN {F : Nat → Int} : ∀ {n : Nat}, (∀ i, i < n → InR (F i)) → InR ((maxN F n : Nat) : Int)
  | 0, _ => by unfold InR; show (((0 : Nat) : Int)).natAbs < lim; rw [lim_words]; decide
  | n + 1, h => by
    have h1 := inR_maxN (n := n) fun i hi => h i (by omega)
    have h2 := h n (by omega)
    unfold InR at *
    rw [Int.natAbs_natCast] at *
    show max (maxN F n) (F n).natAbs < lim
    omega
def NormPost (ok : Bool) (n : Nat) (F : Nat → Int) (w : World) (e : Ending) (w' : World) : Prop :=
  (if ok then e = .returned (.tuple #[.agg #[.bool false, .string (zT ((maxN F n : Nat) : Int))], .int .i64 0])
    else e = .returned (.tuple #[.agg #[.bool false, .string ⟨#[]⟩], .int .i64 2])) ∧ Below w.heap.size w w'
set_option maxRecDepth 100000 in
set_option maxHeartbeats 16000000 in
theorem Norm_any (N pr pw wt er : Int) (cv : Value) (chain : List Nat) (sp : Nat) (la : Int) (sa : Bool) (av : Value) (xs : List (List Nat)) (w : World) (hr : w.reads w.heap.size cv (chain.map u32V)) (hrow : w.rows u32V w.heap.size av xs) (ok : Bool) (hok : ok = true ↔ checkB N chain sp la sa xs = true ∧ AllP (modl chain sp la.toNat sa)) (n : Nat) (hn : n = N.toNat) (F : Nat → Int) (hF : F = wC (modl chain sp la.toNat sa) xs) :
    Calls Try.prog 39 #[.agg #[.int .i64 N, .int .u32 pr, .int .i64 pw, cv, .int .u32 (sp : Int), .int .i64 wt, .int .u32 er], .agg #[.int .i64 la, .bool sa, av]] w (NormPost ok n F w) := by
  obtain ⟨W0, hW0⟩ : ∃ W0, W0 = (((w.alloc (.cells #[.int .i64 N, .int .u32 pr, .int .i64 pw, cv, .int .u32 (sp : Int), .int .i64 wt, .int .u32 er] 25)).alloc (.cells #[.int .i64 la, .bool sa, av] 28)).alloc (.cells #[.bool false, .string ⟨#[]⟩] 42)) := ⟨_, rfl⟩
  have hB0 : Below w.heap.size w W0 := by rw [hW0]; exact (((Below.refl _ w).alloc (Nat.le_refl _) _).alloc (by simp) _).alloc (by first | (simp; done) | (simp; omega)) _
  have hp0 : W0.heap[w.heap.size]? = some (.cells #[.int .i64 N, .int .u32 pr, .int .i64 pw, cv, .int .u32 (sp : Int), .int .i64 wt, .int .u32 er] 25) := by
    rw [hW0, Below.heap_alloc _ _ _ (by first | (simp; done) | (simp; omega)), Below.heap_alloc _ _ _ (by simp)]; exact alloc_last _ _ rfl
  have ha0 : W0.heap[w.heap.size + 1]? = some (.cells #[.int .i64 la, .bool sa, av] 28) := by
    rw [hW0, Below.heap_alloc _ _ _ (by simp)]; exact alloc_last _ _ (by simp)
  have ho0 : W0.heap[w.heap.size + 1 + 1]? = some (.cells #[.bool false, .string ⟨#[]⟩] 42) := by
    rw [hW0]; exact alloc_last _ _ (by simp)
  have hz0 := lt_of_heap ho0
  have hr0 := (hr.below hB0).mono hB0.size
  have hrow0 := (hrow.below hB0).mono hB0.size
  have HCW := Lib.hid (Wides_any N pr pw wt er cv chain sp la sa av xs W0 hr0 hrow0 ok hok)
  have hin : ok = true → (∀ i, i < n → InR (F i)) ∧ n ≤ 32 := by
    intro h
    obtain ⟨hc, hA⟩ := hok.1 h
    obtain ⟨n', lv, e1, e2, -, i2, i3, i4, i5, i6, i7⟩ := checkB_elt hc
    subst e1 e2
    rw [Int.toNat_natCast] at hn hF hA
    subst hn
    unfold checkB preB at hc
    simp only [Bool.and_eq_true] at hc
    have hs := sys_modl hc.1.1 hc.1.2 hA
    have hml := modl_length chain sp lv sa i4
    refine ⟨fun i _ => ?_, i2⟩
    rw [hF]
    exact inR_joinZ hs.sep (by rw [hml]; cases sa <;> simp <;> omega)
  unfold WidesPost at HCW
  rw [← hn, ← hF] at HCW
  have HIN := Lib.hid hin
  obtain ⟨aa, ac, rfl, hac, ham, hsh⟩ := hrow0.shape
  obtain ⟨pa, pc, rfl, -⟩ := reads_u32 hr0
  have HO0 := Lib.hid ho0
  have HW0 := Lib.hid hW0
  have HB0 := Lib.hid hB0
  obtain ⟨HPOST, hpost⟩ : ∃ R, R = NormPost ok n F w := ⟨_, rfl⟩
  rw [← hpost]
  have HP := Lib.hid hpost
  obtain ⟨c0, c1, c2, c3, c4, c5, c6⟩ := par_cells hp0
  obtain ⟨k0, k1, k2, -, -, -⟩ := elem_cells ha0
  clear hr hrow hr0 hrow0 hsh hok hW0 hB0 hpost hin hn hF hp0 ha0 ho0
  go_enter Try.func39, Try.ntmps39
  go_upto_region 1 with (fail)
  rw [← HW0.out]
  cases ok with
  | false =>
    go_wp2_with fail
    (with_reducible refine HCW.out.mono ?_)
    rintro e w1 ⟨he, hb1⟩
    rw [if_neg (by decide)] at he
    subst he
    have g1 := wide_hold (w := w) HO0.out hb1
    obtain ⟨d0, d1, f0⟩ := wide_cells g1
    have hb9 := below_set2 (p := w.heap.size + 1 + 1) (below_via HB0.out hb1) (by omega) false ⟨#[]⟩
    have m2 := wide_set g1 false ⟨#[]⟩
    clear g1
    go_wp2
    clear d0 d1 f0
    obtain ⟨d20, d21, -⟩ := wide_cells m2
    clear m2
    generalize (w1.setCell ⟨w.heap.size + 1 + 1, 0, none⟩ (.bool false)).setCell ⟨w.heap.size + 1 + 1, 1, none⟩ (.string ⟨#[]⟩) = W9 at d20 d21 hb9 ⊢
    rw [HP.out]
    exact bodyPost_ret (v := .tuple #[.agg #[.bool false, .string ⟨#[]⟩], .int .i64 2]) (by simp [results, Try.results39, go_sem, d20, d21]) rfl ⟨by rw [if_neg (by decide)], hb9⟩
  | true =>
    obtain ⟨hFI, hn32⟩ := HIN.out rfl
    have HFI := Lib.hid hFI
    clear HIN hFI
    go_wp2_with fail
    (with_reducible refine HCW.out.mono ?_)
    rintro e w1 ⟨he, hb1⟩
    rw [if_pos trivial] at he
    obtain ⟨g, rfl, hg0, hg1⟩ := he
    have HO1 := Lib.hid (wide_hold (w := w) HO0.out hb1)
    have HG1 := Lib.hid hg1
    have HB1 := Lib.hid (below_via HB0.out hb1)
    have hgl := lt_of_heap hg1
    have hol := lt_of_heap HO1.out
    clear hb1 hg1 HO0 HCW HB0 HW0 c0 c1 c2 c3 c4 c5 c6 k0 k1 k2
    go_upto_region 5 with (fail)
    obtain ⟨o, ho⟩ : ∃ x, x = w1.heap.size := ⟨_, rfl⟩
    have hb2 : Below w1.heap.size w1 (w1.alloc (.cells #[.bool false, .string ⟨#[]⟩] 42)) := (Below.refl _ _).alloc (Nat.le_refl _) _
    have ho2 : (w1.alloc (.cells #[.bool false, .string ⟨#[]⟩] 42)).heap[o]? = some (.cells #[.bool false, .string ⟨#[]⟩] 42) := by rw [ho]; exact heap_alloc_new w1 _
    rw [← ho]
    generalize w1.alloc (.cells #[.bool false, .string ⟨#[]⟩] 42) = w2 at hb2 ho2 ⊢
    have hz2 := lt_of_heap ho2
    have HB2 := Lib.hid (below_via HB1.out hb2)
    have HG2 := Lib.hid (hold_heap HG1.out hb2)
    have HO2 := Lib.hid (wide_hold (w := w1) HO1.out hb2)
    have HQ2 := Lib.hid ho2
    have hgo : g < o := by omega
    have hoo : w.heap.size + 1 + 1 < o := by omega
    clear hb2 ho2 ho HG1 HO1 HB1 hgl hol hg0
    go_wp2_with fail
    go_loopw [23] (fun iv wr => ∃ j : Nat, j ≤ n ∧ iv = .int .i64 (j : Int) ∧ Hid (Below w.heap.size w wr) ∧ Hid (wr.heap[g]? = some (.cells (wArr F n) 42)) ∧ Hid (wr.heap[w.heap.size + 1 + 1]? = some (.cells #[.bool false, .string ⟨#[]⟩] 42)) ∧ Hid (wr.heap[o]? = some (.cells #[.bool false, .string (zT ((maxN F j : Nat) : Int))] 42))) (fun iv _ => n - (intOf iv).toNat)
    case atStart => exact ⟨0, Nat.zero_le _, rfl, HB2.out, HG2.out, HO2.out, HQ2.out⟩
    case round =>
      obtain ⟨j, hj, rfl, HBr, HGr, HOr, HQr⟩ := hrel
      obtain ⟨wo, rfl⟩ : ∃ x, x = wr := ⟨_, rfl⟩
      by_cases hlt : j < n
      · have e0 : wo.cell? ⟨g, j * 2, none⟩ = some (.bool (zN (F j))) := by
          rw [cell_of_row wo g (j * 2) _ _ (0, 0) HGr.out]
          unfold wArr
          rw [wPart_get (by omega), if_pos (by omega), if_pos (by omega), show j * 2 / 2 = j by omega]
        have e1 : wo.cell? ⟨g, j * 2 + 1, none⟩ = some (.string (zT (F j))) := by
          rw [cell_of_row wo g (j * 2 + 1) _ _ (0, 0) HGr.out]
          unfold wArr
          rw [wPart_get (by omega), if_pos (by omega), if_neg (by omega), show (j * 2 + 1) / 2 = j by omega]
        have j1 : (j : Int) < (n : Int) := by omega
        have j2 : (0 : Int) ≤ (j : Int) := by omega
        go_upto_region 8 with (fail)
        clear e0 e1
        obtain ⟨x, hx⟩ : ∃ x, x = wo.heap.size := ⟨_, rfl⟩
        have hox : o < x := by rw [hx]; exact lt_of_heap HQr.out
        have hb3 : Below wo.heap.size wo (wo.alloc (.cells #[.bool (zN (F j)), .string (zT (F j))] 42)) := (Below.refl _ _).alloc (Nat.le_refl _) _
        have hx3 : (wo.alloc (.cells #[.bool (zN (F j)), .string (zT (F j))] 42)).heap[x]? = some (.cells #[.bool (zN (F j)), .string (zT (F j))] 42) := by rw [hx]; exact heap_alloc_new wo _
        rw [← hx]
        generalize wo.alloc (.cells #[.bool (zN (F j)), .string (zT (F j))] 42) = w3 at hb3 hx3 ⊢
        have HB3 := Lib.hid (below_via HBr.out hb3)
        have HG3 := Lib.hid (hold_heap HGr.out hb3)
        have HO3 := Lib.hid (wide_hold (w := w) HOr.out hb3)
        have HQ3 := Lib.hid (wide_hold (w := w) HQr.out hb3)
        have HX3 := Lib.hid hx3
        obtain ⟨d0, d1, f0⟩ := wide_cells hx3
        clear hb3 hx3 hx
        go_upto_region 9 with (fail)
        have hB4 : Below w.heap.size w (w3.setCell ⟨x, 0, none⟩ (.bool false)) := HB3.out.setCell (by show w.heap.size ≤ x; omega) _
        have hG4 : (w3.setCell ⟨x, 0, none⟩ (.bool false)).heap[g]? = some (.cells (wArr F n) 42) := (Below.heap_setCell _ _ _ _ (by simp; omega)).trans HG3.out
        have hO4 : (w3.setCell ⟨x, 0, none⟩ (.bool false)).heap[w.heap.size + 1 + 1]? = some (.cells #[.bool false, .string ⟨#[]⟩] 42) := (Below.heap_setCell _ _ _ _ (by simp; omega)).trans HO3.out
        have hQ4 : (w3.setCell ⟨x, 0, none⟩ (.bool false)).heap[o]? = some (.cells #[.bool false, .string (zT ((maxN F j : Nat) : Int))] 42) := (Below.heap_setCell _ _ _ _ (by simp; omega)).trans HQ3.out
        have hX4 : (w3.setCell ⟨x, 0, none⟩ (.bool false)).heap[x]? = some (.cells #[.bool false, .string (zT (F j))] 42) := by simp [World.setCell, Array.getElem?_modify, HX3.out]
        generalize w3.setCell ⟨x, 0, none⟩ (.bool false) = w4 at hB4 hG4 hO4 hQ4 hX4 ⊢
        have HB4 := Lib.hid hB4
        have HG4 := Lib.hid hG4
        have HO4 := Lib.hid hO4
        have HQ4 := Lib.hid hQ4
        clear d0 d1 f0
        obtain ⟨d0, d1, -⟩ := wide_cells hX4
        obtain ⟨q0, q1, f0⟩ := wide_cells hQ4
        have HM := Lib.hid (Max_z (maxN F j) (F j) (inR_maxN fun i hi => HFI.out i (by omega)) (HFI.out j hlt) w4)
        clear hB4 hG4 hO4 hQ4 hX4
        go_wp2_with fail
        (with_reducible refine HM.out.mono ?_)
        rintro e w5 ⟨rfl, hb5⟩
        have hQ5 := wide_hold (w := w) HQ4.out hb5
        have hG5 := hold_heap HG4.out hb5
        have hO5 := wide_hold (w := w) HO4.out hb5
        have hB5 := below_via HB4.out hb5
        obtain ⟨y, hy⟩ : ∃ y, y = zT ((max (maxN F j) (F j).natAbs : Nat) : Int) := ⟨_, rfl⟩
        rw [← hy]
        have hy2 : y = zT ((maxN F (j + 1) : Nat) : Int) := hy
        have HY := Lib.hid hy2
        have HQ6 := Lib.hid (wide_set hQ5 false y)
        have HB6 := Lib.hid (below_set2 (p := o) hB5 (by omega) false y)
        have HG6 : Hid ((((w5.setCell ⟨o, 0, none⟩ (.bool false)).setCell ⟨o, 1, none⟩ (.string y))).heap[g]? = some (.cells (wArr F n) 42)) := ((Below.heap_setCell _ _ _ _ (by simp; omega)).trans (Below.heap_setCell _ _ _ _ (by simp; omega))).trans hG5
        have HO6 : Hid ((((w5.setCell ⟨o, 0, none⟩ (.bool false)).setCell ⟨o, 1, none⟩ (.string y))).heap[w.heap.size + 1 + 1]? = some (.cells #[.bool false, .string ⟨#[]⟩] 42)) := ((Below.heap_setCell _ _ _ _ (by simp; omega)).trans (Below.heap_setCell _ _ _ _ (by simp; omega))).trans hO5
        clear q0 q1 f0 d0 d1 hy hy2
        obtain ⟨q0, q1, f0⟩ := wide_cells hQ5
        clear hQ5 hG5 hO5 hB5 hb5
        go_wp2_with fail
        go_roundw
        case rel => exact ⟨j + 1, by omega, by go_num, HB6.out, HG6.out, HO6.out, by rw [← HY.out]; exact HQ6.out⟩
        case measure => simp [intOf]; omega
      · obtain rfl : j = n := by omega
        obtain ⟨q0, q1, -⟩ := wide_cells HQr.out
        obtain ⟨d0, d1, f0⟩ := wide_cells HOr.out
        obtain ⟨y, hy⟩ : ∃ y, y = zT ((maxN F j : Nat) : Int) := ⟨_, rfl⟩
        rw [← hy] at q1
        have HY := Lib.hid hy
        clear hy
        have m2 := wide_set HOr.out false y
        have hb9 := below_set2 (p := w.heap.size + 1 + 1) HBr.out (by omega) false y
        go_wp2
        clear d0 d1 f0 q0 q1
        obtain ⟨d20, d21, -⟩ := wide_cells m2
        clear m2
        generalize (wo.setCell ⟨w.heap.size + 1 + 1, 0, none⟩ (.bool false)).setCell ⟨w.heap.size + 1 + 1, 1, none⟩ (.string y) = W9 at d20 d21 hb9 ⊢
        rw [HP.out]
        exact bodyPost_ret (v := .tuple #[.agg #[.bool false, .string y], .int .i64 0]) (by simp [results, Try.results39, go_sem, d20, d21]) rfl ⟨by rw [if_pos rfl, HY.out], hb9⟩
end Go.Proofs.Ytkjlfjnncdkmlaa.G

/- Walks: the fixed case that each law of the ring ends in. -/
namespace Go.Proofs.Ytkjlfjnncdkmlaa.G
set_option linter.all false
open Go.RowKit Go.Shelf Go.BigFrame Go.WideNum PN
attribute [local go_sem] Oper.semAt_some
theorem rows_of {α : Type} {enc : α → Value} {w : World} {B b : Nat} {rs : List (List α)} {bs : List Nat} {t : TypeId} {fz : Nat × Nat} (hl : bs.length = rs.length) (hn : rs.length ≤ maxLen)
    (hob : w.heap[b]? = some (.cells (List.zipWith (fun b r => Value.slice (some ⟨b, 0, none⟩) r.length r.length) bs rs).toArray t fz)) (hB : b < B)
    (hin : ∀ (i : Nat) (x : Nat) (r : List α), bs[i]? = some x → rs[i]? = some r → x < B ∧ r.length ≤ maxLen ∧ ∃ t fz, w.heap[x]? = some (.cells (r.map enc).toArray t fz)) :
    w.rows enc B (.slice (some ⟨b, 0, none⟩) rs.length rs.length) rs := by
  refine ⟨List.zipWith (fun b r => Value.slice (some ⟨b, 0, none⟩) r.length r.length) bs rs, by simp [hl], ?_, fun i r hr => ?_⟩
  · have h := reads_block hob hB rs.length (by simp [hl]) hn
    have hz : (List.zipWith (fun b (r : List α) => Value.slice (some ⟨b, 0, none⟩) r.length r.length) bs rs).length = rs.length := by simp [hl]
    rw [hz] at h; exact h
  · have hi := (List.getElem?_eq_some_iff.1 hr).1
    obtain ⟨x, hx⟩ : ∃ x, bs[i]? = some x := ⟨bs[i]'(by omega), List.getElem?_eq_getElem _⟩
    obtain ⟨h1, h2, t', fz', h3⟩ := hin i x r hx hr
    refine ⟨Value.slice (some ⟨x, 0, none⟩) r.length r.length, by rw [List.getElem?_zipWith, hx, hr], ?_⟩
    have h := reads_block h3 h1 r.length (by simp) h2
    rw [List.length_map] at h
    exact h
theorem rows_two {α : Type} {enc : α → Value} {w : World} {B b x y : Nat} {r s : List α} {t t1 t2 : TypeId} {fz fz1 fz2 : Nat × Nat}
    (hob : w.heap[b]? = some (.cells #[.slice (some ⟨x, 0, none⟩) r.length r.length, .slice (some ⟨y, 0, none⟩) s.length s.length] t fz)) (hB : b < B) (hx : x < B) (hy : y < B) (hr : r.length ≤ maxLen) (hs : s.length ≤ maxLen)
    (h1 : w.heap[x]? = some (.cells (r.map enc).toArray t1 fz1)) (h2 : w.heap[y]? = some (.cells (s.map enc).toArray t2 fz2)) : w.rows enc B (.slice (some ⟨b, 0, none⟩) 2 2) [r, s] := by
  refine rows_of (bs := [x, y]) (rs := [r, s]) rfl (by unfold maxLen; simp) hob hB fun i z q hz hq => ?_
  match i with
  | 0 => obtain rfl : x = z := by simpa using hz
         obtain rfl : r = q := by simpa using hq
         exact ⟨hx, hr, _, _, h1⟩
  | 1 => obtain rfl : y = z := by simpa using hz
         obtain rfl : s = q := by simpa using hq
         exact ⟨hy, hs, _, _, h2⟩
  | i + 2 => simp at hz
theorem rows_none (W : World) : W.rows u32V W.heap.size (.slice none 0 0) ([] : List (List Nat)) := ⟨[], rfl, reads_nil _ _, fun i r h => by simp at h⟩
theorem built_ab (W : World) (r s : List Nat) (t t1 t2 : TypeId) (hr : r.length ≤ maxLen) (hs : s.length ≤ maxLen) : World.rows u32V (((W.alloc (.cells (r.map u32V).toArray t1)).alloc (.cells (s.map u32V).toArray t2)).alloc (.cells #[.slice (some ⟨W.heap.size, 0, none⟩) r.length r.length, .slice (some ⟨W.heap.size + 1, 0, none⟩) s.length s.length] t)) (W.heap.size + 1 + 1 + 1) (.slice (some ⟨W.heap.size + 1 + 1, 0, none⟩) 2 2) [r, s] := by
  refine rows_two (t := t) (t1 := t1) (t2 := t2) (fz := (0, 0)) (fz1 := (0, 0)) (fz2 := (0, 0)) (x := W.heap.size) (y := W.heap.size + 1) ?_ (by omega) (by omega) (by omega) hr hs ?_ ?_
  all_goals (repeat (first | exact alloc_last _ _ (by simp) | rw [Below.heap_alloc _ _ _ (by (first | (simp; done) | (simp; omega)))]))
theorem built_ba (W : World) (r s : List Nat) (t t1 t2 : TypeId) (hr : r.length ≤ maxLen) (hs : s.length ≤ maxLen) : World.rows u32V (((W.alloc (.cells (s.map u32V).toArray t2)).alloc (.cells (r.map u32V).toArray t1)).alloc (.cells #[.slice (some ⟨W.heap.size + 1, 0, none⟩) r.length r.length, .slice (some ⟨W.heap.size, 0, none⟩) s.length s.length] t)) (W.heap.size + 1 + 1 + 1) (.slice (some ⟨W.heap.size + 1 + 1, 0, none⟩) 2 2) [r, s] := by
  refine rows_two (t := t) (t1 := t1) (t2 := t2) (fz := (0, 0)) (fz1 := (0, 0)) (fz2 := (0, 0)) (x := W.heap.size + 1) (y := W.heap.size) ?_ (by omega) (by omega) (by omega) hr hs ?_ ?_
  all_goals (repeat (first | exact alloc_last _ _ (by simp) | rw [Below.heap_alloc _ _ _ (by (first | (simp; done) | (simp; omega)))]))
theorem ps17 : Ps 17 := ⟨sp_of 2 17 1 4 (by decide +kernel), sp_of 7 17 1 4 (by decide +kernel), sp_of 61 17 1 4 (by decide +kernel)⟩
theorem ps97 : Ps 97 := ⟨sp_of 2 97 3 5 (by decide +kernel), sp_of 7 97 3 5 (by decide +kernel), sp_of 61 97 3 5 (by decide +kernel)⟩
theorem prime17 : PrimeP 17 := ⟨by omega, .inr ⟨by decide, ps17⟩⟩
theorem prime97 : PrimeP 97 := ⟨by omega, .inr ⟨by decide, ps97⟩⟩
theorem wC_small {ml : List Nat} (hs : SysP ml) {l : List Int} {j : Nat} (hj : j < l.length) (h : 2 * (l.getD j 0).natAbs < prodL ml) : wC ml (intRows ml l) j = l.getD j 0 := by
  have hq : ∀ q ∈ ml, 0 < q := fun q hq => (hs.sep.mem hq).1.pos
  refine join_small hs (col_row (intRows_ok hq l rfl) hj) (fun i p r hp hr => ?_) h
  unfold colL intRows at hr
  rw [List.getElem?_map, List.getElem?_map, hp] at hr
  injection hr with hr
  subst hr
  show Cg p (l.getD j 0) ((l.map (resN p)).getD j 0 : Nat)
  rw [getD_map_resN p l j hj]
  exact Cg.symm (cg_of (resN_back p (hq p (List.mem_of_getElem? hp)) _))
theorem aw_ints : intsB 4 [17, 97] 41 2 false [1, -1, 20, 0] = true ∧ intRows (modl [17, 97] 41 (2 : Int).toNat false) [1, -1, 20, 0] = [[1, 16, 3, 0], [1, 96, 20, 0]] := by decide +kernel
theorem aw_check : checkB 4 [17, 97] 41 2 false [[1, 16, 3, 0], [1, 96, 20, 0]] = true ∧ modl [17, 97] 41 (2 : Int).toNat false = [17, 97] := by decide +kernel
theorem aw_all : AllP (modl [17, 97] 41 (2 : Int).toNat false) := by
  rw [aw_check.2]
  intro q hq
  rcases List.mem_cons.1 hq with rfl | hq
  · exact prime17
  · obtain rfl := List.mem_singleton.1 hq
    exact prime97
theorem aw_sys : SysP [17, 97] := by
  have h := sys_modl (N := 4) (chain := [17, 97]) (sp := 41) (lv := 2) (s := false) (by decide +kernel) (by decide +kernel) (by have := aw_all; exact this)
  exact h
theorem aw_wC (j : Nat) (hj : j < 4) : wC [17, 97] [[1, 16, 3, 0], [1, 96, 20, 0]] j = [1, -1, 20, 0].getD j (0 : Int) := by
  have h := wC_small aw_sys (l := [1, -1, 20, 0]) (j := j) hj (by
    have hp : prodL [17, 97] = 1649 := by decide +kernel
    rw [hp]
    match j, hj with
    | 0, _ => decide
    | 1, _ => decide
    | 2, _ => decide
    | 3, _ => decide)
  have e : intRows [17, 97] [1, -1, 20, 0] = [[1, 16, 3, 0], [1, 96, 20, 0]] := aw_ints.2
  rw [e] at h
  exact h
theorem aw_norm : maxN (wC [17, 97] [[1, 16, 3, 0], [1, 96, 20, 0]]) 4 = 20 := by
  show max (max (max (max 0 _) _) _) _ = 20
  rw [aw_wC 0 (by omega), aw_wC 1 (by omega), aw_wC 2 (by omega), aw_wC 3 (by omega)]
  decide
set_option maxRecDepth 100000 in
set_option maxHeartbeats 16000000 in
theorem awake_any (w : World) : Calls Try.prog 12 #[] w fun e w' => e = .returned (.bool true) ∧ Below w.heap.size w w' := by
  obtain ⟨HPOST, hpost⟩ : ∃ R : Ending → World → Prop, R = fun e w' => e = .returned (.bool true) ∧ Below w.heap.size w w' := ⟨_, rfl⟩
  rw [← hpost]
  have HP := Lib.hid hpost
  clear hpost
  obtain ⟨W0, hW0⟩ : ∃ W0, W0 = ((w.alloc (.cells #[.int .u32 17, .int .u32 97] 22)).alloc (.cells #[.int .i64 4, .int .u32 0, .int .i64 0, .slice (some ⟨w.heap.size, 0, none⟩) 2 2, .int .u32 41, .int .i64 0, .int .u32 0] 25)) := ⟨_, rfl⟩
  have b0 : W0.heap[w.heap.size]? = some (.cells #[.int .u32 17, .int .u32 97] 22) := by
    rw [hW0]; repeat (first | exact alloc_last _ _ (by simp) | rw [Below.heap_alloc _ _ _ (by (first | (simp; done) | (simp; omega)))])
  have b1 : W0.heap[w.heap.size + 1]? = some (.cells #[.int .i64 4, .int .u32 0, .int .i64 0, .slice (some ⟨w.heap.size, 0, none⟩) 2 2, .int .u32 41, .int .i64 0, .int .u32 0] 25) := by
    rw [hW0]; repeat (first | exact alloc_last _ _ (by simp) | rw [Below.heap_alloc _ _ _ (by (first | (simp; done) | (simp; omega)))])
  have hz0 := lt_of_heap b1
  have hB0 : Below w.heap.size w W0 := by
    rw [hW0]; repeat (with_reducible first | refine Below.alloc ?_ (by first | omega | (simp; done) | (simp; omega)) _ | exact Below.refl _ _)
  have hr0 : W0.reads W0.heap.size (.slice (some ⟨w.heap.size, 0, none⟩) 2 2) ([17, 97].map u32V) := reads_block (l := [17, 97].map u32V) b0 (by omega) 2 (by simp) (by unfold maxLen; omega)
  obtain ⟨W1, hW1⟩ : ∃ W1, W1 = W0.alloc (.cells #[.int .i64 1, .int .i64 (-1), .int .i64 20, .int .i64 0] 2) := ⟨_, rfl⟩
  have hB1 : Below W0.heap.size W0 W1 := by rw [hW1]; exact (Below.refl _ _).alloc (Nat.le_refl _) _
  have b2 : W1.heap[W0.heap.size]? = some (.cells #[.int .i64 1, .int .i64 (-1), .int .i64 20, .int .i64 0] 2) := by rw [hW1]; exact heap_alloc_new W0 _
  have hz1 := lt_of_heap b2
  have hl1 : W1.reads W1.heap.size (.slice (some ⟨W0.heap.size, 0, none⟩) 4 4) ([1, -1, 20, 0].map i64V) := reads_block (l := [1, -1, 20, 0].map i64V) b2 (by omega) 4 (by simp) (by unfold maxLen; omega)
  have hr1 := (hr0.below hB1).mono hB1.size
  have HF := FromInts_any 4 0 0 0 0 _ [17, 97] 41 2 false _ [1, -1, 20, 0] W1 hr1 hl1
  rw [show ((41 : Nat) : Int) = 41 from rfl] at HF
  unfold IntsPost at HF
  rw [aw_ints.1, aw_ints.2] at HF
  simp only [if_true] at HF
  replace HF := Lib.hid HF
  have HR1 := Lib.hid hr1
  have HB1 := Lib.hid (below_via hB0 hB1)
  have HG1 := Lib.hid (hold_heap b1 hB1)
  obtain ⟨c0, c1, c2, c3, c4, c5, c6⟩ := par_cells b1
  have HW0 := Lib.hid hW0
  have HW1 := Lib.hid hW1
  clear hW0 hW1 b0 b1 b2 hr0 hr1 hl1 hB0 hB1
  go_enter Try.func12, Try.ntmps12
  go_upto_region 2 with (fail)
  rw [← HW0.out]
  go_wp2_with fail
  rw [← HW1.out]
  (with_reducible refine HF.out.mono ?_)
  rintro e w2 ⟨⟨rv, rfl, hv⟩, hb2⟩
  obtain ⟨ra, rc, rfl, -⟩ := hv.shape
  have HG2 := Lib.hid (hold_heap HG1.out hb2)
  have HR2 := Lib.hid ((HR1.out.below hb2).mono hb2.size)
  have HB2 := Lib.hid (below_via HB1.out hb2)
  have HV2 : Hid (w2.rows u32V w2.heap.size (.slice ra 2 rc) [[1, 16, 3, 0], [1, 96, 20, 0]]) := hv
  have hz2 := hb2.size
  clear c0 c1 c2 c3 c4 c5 c6 HF HG1 HR1 HB1 hb2 hv HW0 HW1
  go_upto_region 3 with (fail)
  obtain ⟨W3, hW3⟩ : ∃ W3, W3 = w2.alloc (.cells #[.int .i64 2, .bool false, .slice ra 2 rc] 28) := ⟨_, rfl⟩
  have hB3 : Below w2.heap.size w2 W3 := by rw [hW3]; exact (Below.refl _ _).alloc (Nat.le_refl _) _
  obtain ⟨q, hq⟩ : ∃ q, q = w2.heap.size := ⟨_, rfl⟩
  have b3 : W3.heap[q]? = some (.cells #[.int .i64 2, .bool false, .slice ra 2 rc] 28) := by rw [hW3, hq]; exact heap_alloc_new w2 _
  have hz3 := lt_of_heap b3
  have hrow3 : W3.rows u32V W3.heap.size (.slice ra 2 rc) [[1, 16, 3, 0], [1, 96, 20, 0]] := (HV2.out.below hB3).mono hB3.size
  have hr3 := (HR2.out.below hB3).mono hB3.size
  have HN := Norm_any 4 0 0 0 0 _ [17, 97] 41 2 false _ [[1, 16, 3, 0], [1, 96, 20, 0]] W3 hr3 hrow3 true ⟨fun _ => ⟨aw_check.1, aw_all⟩, fun _ => rfl⟩ 4 rfl (wC [17, 97] [[1, 16, 3, 0], [1, 96, 20, 0]]) (by rw [aw_check.2])
  rw [show ((41 : Nat) : Int) = 41 from rfl] at HN
  unfold NormPost at HN
  simp only [if_true, aw_norm] at HN
  obtain ⟨T20, hT⟩ : ∃ T, T = zT ((20 : Nat) : Int) := ⟨_, rfl⟩
  rw [← hT] at HN
  replace HN := Lib.hid HN
  have HB3 := Lib.hid (below_via HB2.out hB3)
  have HV3 := Lib.hid hrow3
  have HQ3 := Lib.hid b3
  have HT := Lib.hid hT
  obtain ⟨c0, c1, c2, c3, c4, c5, c6⟩ := par_cells (hold_heap HG2.out hB3)
  obtain ⟨k0, k1, k2, -, -, -⟩ := elem_cells b3
  have hqw : w.heap.size + 1 < q := by omega
  rw [← hW3, ← hq]
  clear hW3 HG2 HR2 HB2 HV2 hr3 hrow3 hB3 b3 hT hq
  go_wp2_with fail
  (with_reducible refine HN.out.mono ?_)
  rintro e w4 ⟨rfl, hb4⟩
  clear c0 c1 c2 c3 c4 c5 c6 k0 k1 k2 HN
  have HB4 := Lib.hid (below_via HB3.out hb4)
  have HV4 := Lib.hid ((HV3.out.below hb4).mono hb4.size)
  have HQ4 := Lib.hid (hold_heap HQ3.out hb4)
  have hz4 := hb4.size
  clear HB3 HV3 HQ3 hb4
  go_upto_region 4 with (fail)
  obtain ⟨W5, hW5⟩ : ∃ W5, W5 = w4.alloc (.cells #[.bool false, .string T20] 42) := ⟨_, rfl⟩
  have hB5 : Below w4.heap.size w4 W5 := by rw [hW5]; exact (Below.refl _ _).alloc (Nat.le_refl _) _
  obtain ⟨u, hu⟩ : ∃ u, u = w4.heap.size := ⟨_, rfl⟩
  have b5 : W5.heap[u]? = some (.cells #[.bool false, .string T20] 42) := by rw [hW5, hu]; exact heap_alloc_new w4 _
  have hz5 := lt_of_heap b5
  have HV5 := Lib.hid ((HV4.out.below hB5).mono hB5.size)
  have HB5 := Lib.hid (below_via HB4.out hB5)
  have HQ5 := Lib.hid (hold_heap HQ4.out hB5)
  have hqu : q < u := by rw [hu]; exact lt_of_heap HQ4.out
  rw [← hW5, ← hu]
  obtain ⟨k0, k1, k2, -, -, -⟩ := elem_cells HQ5.out
  obtain ⟨d0, d1, -⟩ := wide_cells b5
  have HS1 : Hid (∀ W v, Below W5.heap.size W5 W → W.rows u32V W.heap.size v [[1, 16, 3, 0], [1, 96, 20, 0]] → Calls Try.prog 34 #[.agg #[.int .i64 2, .bool false, .slice ra 2 rc], .agg #[.int .i64 2, .bool false, v]] W fun e w' => e = .returned (.bool true) ∧ Below W.heap.size W w') := fun W v hb h => by
    have := same_any 2 2 false false _ _ _ _ W ((HV5.out.below hb).mono hb.size) h
    simpa [sameB] using this
  have HS2 : Hid (∀ W, Below W5.heap.size W5 W → Calls Try.prog 34 #[.agg #[.int .i64 2, .bool false, .slice ra 2 rc], .agg #[.int .i64 0, .bool false, .slice none 0 0]] W fun e w' => e = .returned (.bool false) ∧ Below W.heap.size W w') := fun W hb => by
    have h0 : W.rows u32V W.heap.size (.slice none 0 0) ([] : List (List Nat)) := rows_none W
    have := same_any 2 0 false false _ _ _ _ W ((HV5.out.below hb).mono hb.size) h0
    simpa [sameB] using this
  have HOF : Hid (∀ W, Calls Try.prog 16 #[.int .i64 20] W fun e w' => e = .returned (.agg #[.bool false, .string T20]) ∧ Below W.heap.size W w') := fun W => by
    have := refOf_z 20 (by omega) (by omega) W
    rw [show zN 20 = false from by decide, show zT 20 = T20 from HT.out.symm] at this
    exact this
  clear HV5 HQ5 HV4 HQ4 HB4 hB5 b5 hW5 hu HT
  have hk : ∀ X, Below W5.heap.size W5 X → X.cell? ⟨q, 0, none⟩ = some (.int .i64 2) ∧ X.cell? ⟨q, 1, none⟩ = some (.bool false) ∧ X.cell? ⟨q, 2, none⟩ = some (.slice ra 2 rc) ∧ X.cell? ⟨u, 0, none⟩ = some (.bool false) ∧ X.cell? ⟨u, 1, none⟩ = some (.string T20) := fun X hb =>
    ⟨(hb.cell (p := ⟨q, 0, none⟩) (by show q < _; omega)).trans k0, (hb.cell (p := ⟨q, 1, none⟩) (by show q < _; omega)).trans k1, (hb.cell (p := ⟨q, 2, none⟩) (by show q < _; omega)).trans k2, (hb.cell (p := ⟨u, 0, none⟩) hz5).trans d0, (hb.cell (p := ⟨u, 1, none⟩) hz5).trans d1⟩
  have HKK := Lib.hid hk
  clear hk
  go_region_held3 (fun w' => w'.cell? ⟨q, 0, none⟩ = some (.int .i64 2) ∧ w'.cell? ⟨q, 1, none⟩ = some (.bool false) ∧ w'.cell? ⟨q, 2, none⟩ = some (.slice ra 2 rc) ∧ w'.cell? ⟨u, 0, none⟩ = some (.bool false) ∧ w'.cell? ⟨u, 1, none⟩ = some (.string T20))
    (first | exact ⟨k0, k1, k2, d0, d1⟩ | exact HKK.out _ (by repeat (with_reducible first | assumption | apply below_drewN | apply Below.drew | refine Below.alloc ?_ (by first | omega | (simp; done) | (simp; omega)) _ | exact Below.refl _ _)))
    (first
      | (go_simp; go_at_call 34; (with_reducible refine (HS1.out _ _ (by repeat (with_reducible first | assumption | apply below_drewN | apply Below.drew | refine Below.alloc ?_ (by first | omega | (simp; done) | (simp; omega)) _ | exact Below.refl _ _)) (by with_unfolding_all first | exact (built_ab _ [1, 16, 3, 0] [1, 96, 20, 0] _ _ _ (by unfold maxLen; simp) (by unfold maxLen; simp)).mono (by simp) | exact ((built_ab _ [1, 16, 3, 0] [1, 96, 20, 0] _ _ _ (by unfold maxLen; simp) (by unfold maxLen; simp)).below ((Below.refl _ _).drew)).mono (by simp) | exact (built_ba _ [1, 16, 3, 0] [1, 96, 20, 0] _ _ _ (by unfold maxLen; simp) (by unfold maxLen; simp)).mono (by simp) | exact ((built_ba _ [1, 16, 3, 0] [1, 96, 20, 0] _ _ _ (by unfold maxLen; simp) (by unfold maxLen; simp)).below ((Below.refl _ _).drew)).mono (by simp))).mono ?_); rintro e w6 ⟨rfl, hb6⟩; have h6 : Below W5.heap.size W5 w6 := below_via (by repeat (with_reducible first | assumption | apply below_drewN | apply Below.drew | refine Below.alloc ?_ (by first | omega | (simp; done) | (simp; omega)) _ | exact Below.refl _ _)) hb6; clear hb6)
      | (go_simp; go_at_call 16; (with_reducible refine (HOF.out _).mono ?_); rintro e w7 ⟨rfl, hb7⟩; have h7 : Below W5.heap.size W5 w7 := below_via h6 hb7; clear hb7)
      | (go_simp; go_at_call 34; (with_reducible refine (HS2.out _ h7).mono ?_); rintro e w8 ⟨rfl, hb8⟩; have h8 : Below W5.heap.size W5 w8 := below_via h7 hb8; clear hb8))
  all_goals
    go_wp2
    first
      | (rw [HP.out]; exact ⟨rfl, below_via HB5.out h8⟩)
      | (go_ret; exact ⟨rfl, below_via HB5.out h8⟩)
end Go.Proofs.Ytkjlfjnncdkmlaa.G

/- Walks: what the laws leave out. -/
namespace Go.Proofs.Ytkjlfjnncdkmlaa.G
set_option linter.all false
open Go.RowKit Go.Shelf Go.BigFrame
attribute [local go_sem] Oper.semAt_some
def smallRows (rs : List (List Nat)) (k : Nat) : Bool := (rs.take k).all fun r => decide (r.length ≤ 100)
def hugeB (rs : List (List Nat)) : Bool := !smallRows rs 60 || decide (60 < rs.length)
set_option maxRecDepth 100000 in
set_option maxHeartbeats 8000000 in
theorem huge_any (l1 : Int) (s1 : Bool) (v1 : Value) (xs : List (List Nat)) (B1 : Nat) (w : World) (h1 : w.rows u32V B1 v1 xs) (hB1 : B1 ≤ w.heap.size) :
    Calls Try.prog 38 #[.agg #[.int .i64 l1, .bool s1, v1]] w fun e w' => e = .returned (.bool (hugeB xs)) ∧ Below w.heap.size w w' := by
  have hl1 := h1.le
  obtain ⟨a1, c1, rfl, hc1, hm1, hs1⟩ := h1.shape
  obtain ⟨W0, hW0⟩ : ∃ W0, W0 = w.alloc (.cells #[.int .i64 l1, .bool s1, .slice a1 xs.length c1] 28) := ⟨_, rfl⟩
  have hB0 : Below w.heap.size w W0 := by rw [hW0]; exact (Below.refl _ w).alloc (Nat.le_refl _) _
  have g1 : W0.heap[w.heap.size]? = some (.cells #[.int .i64 l1, .bool s1, .slice a1 xs.length c1] 28) := by
    rw [hW0]; exact alloc_last _ _ rfl
  obtain ⟨hcw, -⟩ := bcell hB0
  obtain ⟨k0, k1, k2, -, -, -⟩ := elem_cells g1
  have HS1 : Hid (∀ (j : Nat) (r : List Nat), xs[j]? = some r → ∃ b off b2 c2, a1 = some ⟨b, off, none⟩ ∧ W0.cell? ⟨b, off + j, none⟩ = some (.slice b2 r.length c2)) := by
    intro j r hj
    obtain ⟨b, off, b2, c2, h1, h2, h3, h4⟩ := hs1 j r hj
    exact ⟨b, off, b2, c2, h1, by rw [hcw _ _ (by omega)]; exact h3⟩
  obtain ⟨l, hl⟩ : ∃ l, l = xs.length := ⟨_, rfl⟩
  rw [← hl] at hl1 hc1 k2 hW0
  have HW0 := Lib.hid hW0
  have HL := Lib.hid hl
  rw [← hl]
  clear hs1 hcw g1 h1 hl hW0
  go_enter Try.func38, Try.ntmps38
  go_upto_region 1 with (fail)
  rw [← HW0.out]
  go_wp2
  go_loop [3] (fun i => ∃ k : Nat, k ≤ l ∧ k ≤ 60 ∧ i = .int .i64 (k : Int) ∧ Hid (smallRows xs k = true)) (fun i => l - (intOf i).toNat)
  case atStart => exact ⟨0, Nat.zero_le _, by omega, rfl, by show _ = _; simp [smallRows]⟩
  case round =>
    obtain ⟨k, hk, hk6, rfl, hall⟩ := hrel
    by_cases hlt : k < l
    · by_cases hk60 : k < 60
      · obtain ⟨x, hx⟩ : ∃ x, xs[k]? = some x := ⟨xs[k]'(by have := HL.out; omega), List.getElem?_eq_getElem _⟩
        obtain ⟨b1, o1, p1, d1, rfl, hcx⟩ := HS1.out k x hx
        obtain ⟨m, hm⟩ : ∃ m, m = x.length := ⟨_, rfl⟩
        rw [← hm] at hcx
        have HX := Lib.hid hx
        have HM := Lib.hid hm
        clear hx hm
        by_cases hbig : 100 < m
        · have HF : Hid (smallRows xs 60 = false) := by
            show _ = _
            unfold smallRows
            rw [List.all_eq_false]
            refine ⟨x, ?_, by have := HM.out; simp; omega⟩
            exact List.mem_of_getElem? (i := k) (by rw [List.getElem?_take, if_pos hk60]; exact HX.out)
          go_wp2
          go_ret
          exact ⟨ret_bool (by unfold hugeB; rw [HF.out]; simp), hB0⟩
        · go_wp2
          go_round
          case rel => exact ⟨k + 1, by omega, by omega, by go_num, by show _ = _; unfold smallRows; rw [all_take_succ _ _ _ _ HX.out]; have h3 := hall.out; unfold smallRows at h3; rw [h3]; have := HM.out; simp; omega⟩
          case measure => simp [intOf]; omega
      · obtain rfl : k = 60 := by omega
        have HF : Hid (hugeB xs = true) := by show _ = _; unfold hugeB; have := HL.out; simp; right; omega
        go_wp2
        go_ret
        exact ⟨ret_bool (by rw [HF.out]), hB0⟩
    · obtain rfl : k = l := by omega
      have h2 := hall.out
      have HF : Hid (hugeB xs = false) := by
        show _ = _
        have h3 := HL.out
        unfold hugeB
        unfold smallRows at h2 ⊢
        rw [List.take_of_length_le (by omega)] at h2 ⊢
        rw [h2]
        simp; omega
      clear h2 hall
      go_wp2
      go_ret
      exact ⟨ret_bool (by rw [HF.out]; simp; omega), hB0⟩
end Go.Proofs.Ytkjlfjnncdkmlaa.G

/- Walks: what the ring's laws leave out, of a case. -/
namespace Go.Proofs.Ytkjlfjnncdkmlaa.G
set_option linter.all false
open Go.RowKit Go.Shelf Go.BigFrame
attribute [local go_sem] Oper.semAt_some
structure RCase where
  (N pr pw wt er la lb num kk level : Int)
  (cv av bv lw : Value)
  (sa sb special : Bool)
  (chain : List Nat)
  (sp : Nat)
  (xs ys : List (List Nat))
  (ls : List Int)
def RCase.cells (c : RCase) : Array Value := #[.int .i64 c.N, .int .u32 c.pr, .int .i64 c.pw, c.cv, .int .u32 (c.sp : Int), .int .i64 c.wt, .int .u32 c.er, .int .i64 c.la, .bool c.sa, c.av, .int .i64 c.lb, .bool c.sb, c.bv, .int .i64 c.num, .int .i64 c.kk, .int .i64 c.level, .bool c.special, c.lw]
def RCase.reads (c : RCase) (B : Nat) (w : World) : Prop := w.reads B c.cv (c.chain.map u32V) ∧ w.rows u32V B c.av c.xs ∧ w.rows u32V B c.bv c.ys ∧ w.reads B c.lw (c.ls.map i64V)
theorem RCase.reads.below {c : RCase} {B : Nat} {w w' : World} (h : c.reads B w) (hb : Below B w w') : c.reads B w' := ⟨h.1.below hb, h.2.1.below hb, h.2.2.1.below hb, h.2.2.2.below hb⟩
theorem RCase.reads.mono {c : RCase} {B B' : Nat} {w : World} (h : c.reads B w) (hb : B ≤ B') : c.reads B' w := ⟨h.1.mono hb, h.2.1.mono hb, h.2.2.1.mono hb, h.2.2.2.mono hb⟩
def largeB (c : RCase) : Bool := hugeB c.xs || hugeB c.ys || decide (100 < c.chain.length) || decide (100 < c.ls.length)
set_option maxRecDepth 100000 in
set_option maxHeartbeats 16000000 in
theorem large_any (c : RCase) (w : World) (h : c.reads w.heap.size w) : Calls Try.prog 11 #[.agg c.cells] w fun e w' => e = .returned (.bool (largeB c)) ∧ Below w.heap.size w w' := by
  obtain ⟨HPOST, hpost⟩ : ∃ R : Ending → World → Prop, R = fun e w' => e = .returned (.bool (largeB c)) ∧ Below w.heap.size w w' := ⟨_, rfl⟩
  rw [← hpost]
  have HP := Lib.hid hpost
  clear hpost
  obtain ⟨hrc, hra, hrb, hrl⟩ := h
  obtain ⟨c1, cc, hcv, hcc, hcm, -⟩ := reads_u32 hrc
  obtain ⟨l1, lc, hlv, hlc, hlm, -⟩ := reads_i64 hrl
  have HRA := Lib.hid hra
  have HRB := Lib.hid hrb
  clear hrc hra hrb hrl
  unfold RCase.cells
  rw [hcv, hlv]
  obtain ⟨m, hm⟩ : ∃ m, m = c.chain.length := ⟨_, rfl⟩
  obtain ⟨L, hL⟩ : ∃ L, L = c.ls.length := ⟨_, rfl⟩
  rw [← hm] at hcc ⊢
  rw [← hL] at hlc ⊢
  obtain ⟨W0, hW0⟩ : ∃ W0, W0 = w.alloc (.cells #[.int .i64 c.N, .int .u32 c.pr, .int .i64 c.pw, .slice c1 m cc, .int .u32 (c.sp : Int), .int .i64 c.wt, .int .u32 c.er, .int .i64 c.la, .bool c.sa, c.av, .int .i64 c.lb, .bool c.sb, c.bv, .int .i64 c.num, .int .i64 c.kk, .int .i64 c.level, .bool c.special, .slice l1 L lc] 31) := ⟨_, rfl⟩
  have hB0 : Below w.heap.size w W0 := by rw [hW0]; exact (Below.refl _ w).alloc (Nat.le_refl _) _
  have g0 : W0.heap[w.heap.size]? = some (.cells #[.int .i64 c.N, .int .u32 c.pr, .int .i64 c.pw, .slice c1 m cc, .int .u32 (c.sp : Int), .int .i64 c.wt, .int .u32 c.er, .int .i64 c.la, .bool c.sa, c.av, .int .i64 c.lb, .bool c.sb, c.bv, .int .i64 c.num, .int .i64 c.kk, .int .i64 c.level, .bool c.special, .slice l1 L lc] 31) := by
    rw [hW0]; exact alloc_last _ _ rfl
  have hz0 := lt_of_heap g0
  have HA := Lib.hid (huge_any c.la c.sa c.av c.xs w.heap.size W0 (HRA.out.below hB0) hB0.size)
  have HB := Lib.hid (fun W hb => huge_any c.lb c.sb c.bv c.ys w.heap.size W (HRB.out.below (hB0.trans (Below.mono hb hB0.size))) (Nat.le_trans hB0.size (Below.size hb)))
  have HK : Hid (∀ W, Below W0.heap.size W0 W → W.cell? ⟨w.heap.size, 3, none⟩ = some (.slice c1 m cc) ∧ W.cell? ⟨w.heap.size, 7, none⟩ = some (.int .i64 c.la) ∧ W.cell? ⟨w.heap.size, 8, none⟩ = some (.bool c.sa) ∧ W.cell? ⟨w.heap.size, 9, none⟩ = some c.av ∧ W.cell? ⟨w.heap.size, 10, none⟩ = some (.int .i64 c.lb) ∧ W.cell? ⟨w.heap.size, 11, none⟩ = some (.bool c.sb) ∧ W.cell? ⟨w.heap.size, 12, none⟩ = some c.bv ∧ W.cell? ⟨w.heap.size, 17, none⟩ = some (.slice l1 L lc)) := fun W hb => by
    have g := hold_heap g0 hb
    refine ⟨?_, ?_, ?_, ?_, ?_, ?_, ?_, ?_⟩ <;> simp [World.cell?, g]
  have HW0 := Lib.hid hW0
  obtain ⟨ha, hha⟩ : ∃ b, b = hugeB c.xs := ⟨_, rfl⟩
  obtain ⟨hb, hhb⟩ : ∃ b, b = hugeB c.ys := ⟨_, rfl⟩
  have HR : Hid (largeB c = (ha || hb || decide (100 < m) || decide (100 < L))) := by show _ = _; rw [hha, hhb, hm, hL]; rfl
  rw [← hha] at HA
  simp only [← hhb] at HB
  have HB0 := Lib.hid hB0
  obtain ⟨k3, k7, k8, k9, -, -, -, -⟩ := HK.out W0 (Below.refl _ _)
  clear hm hL hcv hlv g0 hW0 hha hhb hB0
  go_enter Try.func11, Try.ntmps11
  go_upto_region 1 with (fail)
  rw [← HW0.out]
  cases ha with
  | true =>
    go_wp2_with fail
    (with_reducible refine HA.out.mono ?_)
    rintro e w1 ⟨rfl, hb1⟩
    have HB1 := Lib.hid (below_via HB0.out hb1)
    clear hb1 k3 k7 k8 k9
    go_wp2
    rw [HP.out]
    exact ⟨by rw [HR.out]; rfl, HB1.out⟩
  | false =>
    go_wp2_with fail
    (with_reducible refine HA.out.mono ?_)
    rintro e w1 ⟨rfl, hb1⟩
    have HB1 := Lib.hid (below_via HB0.out hb1)
    have HBB := Lib.hid (HB.out w1 hb1)
    have HC1 := Lib.hid hb1
    clear k3 k7 k8 k9
    obtain ⟨-, -, -, -, k10, k11, k12, -⟩ := HK.out w1 hb1
    clear hb1
    go_wp2_with fail
    (with_reducible refine HBB.out.mono ?_)
    rintro e w2 ⟨rfl, hb2⟩
    have HB2 := Lib.hid (below_via HB1.out hb2)
    obtain ⟨k3, -, -, -, -, -, -, k17⟩ := HK.out w2 (below_via HC1.out hb2)
    clear hb2 k10 k11 k12
    cases hb with
    | true =>
      go_wp2
      rw [HP.out]
      exact ⟨by rw [HR.out]; rfl, HB2.out⟩
    | false =>
      by_cases hm1 : 100 < m
      · have t1 : (100 : Int) < (m : Int) := by omega
        have HH : Hid (largeB c = true) := by show _ = _; rw [HR.out]; simp [hm1]
        clear HR hm1
        go_wp2
        rw [HP.out]
        exact ⟨by rw [HH.out]; rfl, HB2.out⟩
      · have t1 : ¬ (100 : Int) < (m : Int) := by omega
        by_cases hl1 : 100 < L
        · have t2 : (100 : Int) < (L : Int) := by omega
          have HH : Hid (largeB c = true) := by show _ = _; rw [HR.out]; simp [hl1]
          clear HR hm1 hl1
          go_wp2
          rw [HP.out]
          exact ⟨by rw [HH.out]; rfl, HB2.out⟩
        · have t2 : ¬ (100 : Int) < (L : Int) := by omega
          have HH : Hid (largeB c = false) := by show _ = _; rw [HR.out]; simp [hl1, hm1]
          clear HR hm1 hl1
          go_wp2
          rw [HP.out]
          exact ⟨by rw [HH.out]; simp [t1, t2], HB2.out⟩
end Go.Proofs.Ytkjlfjnncdkmlaa.G

/- The ring's functions in one shape; elements in boxes; what is made passes the check. -/
namespace Go.Proofs.Ytkjlfjnncdkmlaa.G
set_option linter.all false
open Go.RowKit Go.Shelf Go.BigFrame
attribute [local go_sem] Oper.semAt_some
structure ElAt (W : World) (b : Nat) (la : Int) (sa : Bool) (v : Value) (rs : List (List Nat)) : Prop where
  heap : W.heap[b]? = some (.cells #[.int .i64 la, .bool sa, v] 28)
  rows : W.rows u32V W.heap.size v rs
theorem ElAt.below {W W' : World} {b : Nat} {la : Int} {sa : Bool} {v : Value} {rs : List (List Nat)} (h : Hid (ElAt W b la sa v rs)) (hb : Below W.heap.size W W') : Hid (ElAt W' b la sa v rs) :=
  ⟨hold_heap (w := W) h.out.heap hb, (h.out.rows.below hb).mono hb.size⟩
theorem ElAt.new {W : World} {la : Int} {sa : Bool} {v : Value} {rs : List (List Nat)} (h : W.rows u32V W.heap.size v rs) : Hid (ElAt (W.alloc (.cells #[.int .i64 la, .bool sa, v] 28)) W.heap.size la sa v rs) :=
  ⟨heap_alloc_new W _, (h.below ((Below.refl _ W).alloc (Nat.le_refl _) _)).mono (by simp)⟩
theorem below_new (W : World) (o : Obj) : Below W.heap.size W (W.alloc o) := (Below.refl _ W).alloc (Nat.le_refl _) _
theorem hB {a b c : World} (h : Hid (Below a.heap.size a b)) (k : Below b.heap.size b c) : Hid (Below a.heap.size a c) := below_via h.out k
theorem hR {W W' : World} {v : Value} {l : List Value} (h : Hid (W.reads W.heap.size v l)) (hb : Below W.heap.size W W') : Hid (W'.reads W'.heap.size v l) := (h.out.below hb).mono hb.size
theorem hRow {W W' : World} {v : Value} {l : List (List Nat)} (h : Hid (W.rows u32V W.heap.size v l)) (hb : Below W.heap.size W W') : Hid (W'.rows u32V W'.heap.size v l) := (h.out.below hb).mono hb.size
theorem hG {W W' : World} {b : Nat} {cs : Array Value} {t : TypeId} (h : Hid (W.heap[b]? = some (.cells cs t))) (hb : Below W.heap.size W W') : Hid (W'.heap[b]? = some (.cells cs t)) := hold_heap (w := W) h.out hb
def EltAny (ok : Bool) (lv : Int) (s : Bool) (rows : List (List Nat)) (w : World) (e : Ending) (w' : World) : Prop :=
  ∃ (la : Int) (sa : Bool) (ra : Option Addr) (n rc : Nat) (rs : List (List Nat)) (er : Int), e = .returned (.tuple #[.agg #[.int .i64 la, .bool sa, .slice ra n rc], .int .i64 er]) ∧ w'.rows u32V w'.heap.size (.slice ra n rc) rs ∧
    (ok = true → lv = la ∧ s = sa ∧ rows = rs ∧ 0 = er) ∧ (ok = false → 0 = la ∧ false = sa ∧ [] = rs ∧ 2 = er) ∧ Below w.heap.size w w'
theorem EltPost.any {ok : Bool} {lv : Int} {s : Bool} {rows : List (List Nat)} {w w' : World} {e : Ending} (h : EltPost ok lv s rows w e w') : EltAny ok lv s rows w e w' := by
  obtain ⟨h1, h2⟩ := h
  cases ok with
  | true =>
    rw [if_pos rfl] at h1
    obtain ⟨rv, rfl, h3⟩ := h1
    have h4 := h3.rows
    obtain ⟨ra, rc, rfl, -⟩ := h4.shape
    exact ⟨lv, s, ra, rows.length, rc, rows, 0, rfl, h4, fun _ => ⟨rfl, rfl, rfl, rfl⟩, (fun h => by cases h), h2⟩
  | false =>
    rw [if_neg (by decide)] at h1
    subst h1
    exact ⟨0, false, none, 0, 0, [], 2, rfl, rows_none _, (fun h => by cases h), fun _ => ⟨rfl, rfl, rfl, rfl⟩, h2⟩
set_option maxRecDepth 100000 in
set_option maxHeartbeats 8000000 in
theorem lsame_any {l1 l2 : Int} {s1 s2 : Bool} {v1 v2 : Value} {xs ys : List (List Nat)} {w : World} (h1 : w.rows u32V w.heap.size v1 xs) (h2 : w.rows u32V w.heap.size v2 ys) (b : Bool) (hb : b = (decide (l1 = l2) && decide (s1 = s2) && decide (xs = ys))) :
    Calls Try.prog 19 #[.agg #[.int .i64 l1, .bool s1, v1], .agg #[.int .i64 l2, .bool s2, v2]] w fun e w' => e = .returned (.bool b) ∧ Below w.heap.size w w' := by
  obtain ⟨HPOST, hpost⟩ : ∃ R : Ending → World → Prop, R = fun e w' => e = .returned (.bool b) ∧ Below w.heap.size w w' := ⟨_, rfl⟩
  rw [← hpost]
  obtain ⟨a1, c1, rfl, -⟩ := h1.shape
  obtain ⟨a2, c2, rfl, -⟩ := h2.shape
  obtain ⟨W0, hW0⟩ : ∃ W0, W0 = (w.alloc (.cells #[.int .i64 l1, .bool s1, .slice a1 xs.length c1] 28)).alloc (.cells #[.int .i64 l2, .bool s2, .slice a2 ys.length c2] 28) := ⟨_, rfl⟩
  have hB0 : Below w.heap.size w W0 := by rw [hW0]; exact ((Below.refl _ w).alloc (Nat.le_refl _) _).alloc (by simp) _
  have g1 : W0.heap[w.heap.size]? = some (.cells #[.int .i64 l1, .bool s1, .slice a1 xs.length c1] 28) := by
    rw [hW0, Below.heap_alloc _ _ _ (by simp)]; exact alloc_last _ _ rfl
  have g2 : W0.heap[w.heap.size + 1]? = some (.cells #[.int .i64 l2, .bool s2, .slice a2 ys.length c2] 28) := by
    rw [hW0]; exact alloc_last _ _ (by simp)
  have HC := same09_any l1 l2 s1 s2 _ _ xs ys _ _ W0 ((h1.below hB0).mono hB0.size) ((h2.below hB0).mono hB0.size) (Nat.le_refl _) (Nat.le_refl _)
  rw [← hb] at HC
  replace HC := Lib.hid HC
  have HP := Lib.hid hpost
  have HW0 := Lib.hid hW0
  have HB0 := Lib.hid hB0
  obtain ⟨k0, k1, k2, -, -, -⟩ := elem_cells g1
  obtain ⟨m0, m1, m2, -, -, -⟩ := elem_cells g2
  clear hpost h1 h2 g1 g2 hW0 hB0 hb
  go_enter Try.func19, Try.ntmps19
  go_upto_region 1 with (fail)
  rw [← HW0.out]
  go_wp2_with fail
  (with_reducible refine HC.out.mono ?_)
  rintro e w1 ⟨rfl, hb1⟩
  go_wp2
  rw [HP.out]
  exact ⟨rfl, below_via HB0.out hb1⟩
end Go.Proofs.Ytkjlfjnncdkmlaa.G

/- Cases in a box; plain: what is restricted behind a product. -/
namespace Go.Proofs.Ytkjlfjnncdkmlaa.G
set_option linter.all false
open Go.RowKit Go.Shelf Go.BigFrame
theorem case_cells {W : World} {b : Nat} {u0 u1 u2 u3 u4 u5 u6 u7 u8 u9 u10 u11 u12 u13 u14 u15 u16 u17 : Value} {t : TypeId} (h : W.heap[b]? = some (.cells #[u0, u1, u2, u3, u4, u5, u6, u7, u8, u9, u10, u11, u12, u13, u14, u15, u16, u17] t)) :
    W.cell? ⟨b, 0, none⟩ = some u0 ∧ W.cell? ⟨b, 1, none⟩ = some u1 ∧ W.cell? ⟨b, 2, none⟩ = some u2 ∧ W.cell? ⟨b, 3, none⟩ = some u3 ∧ W.cell? ⟨b, 4, none⟩ = some u4 ∧ W.cell? ⟨b, 5, none⟩ = some u5 ∧ W.cell? ⟨b, 6, none⟩ = some u6 ∧ W.cell? ⟨b, 7, none⟩ = some u7 ∧ W.cell? ⟨b, 8, none⟩ = some u8 ∧ W.cell? ⟨b, 9, none⟩ = some u9 ∧ W.cell? ⟨b, 10, none⟩ = some u10 ∧ W.cell? ⟨b, 11, none⟩ = some u11 ∧ W.cell? ⟨b, 12, none⟩ = some u12 ∧ W.cell? ⟨b, 13, none⟩ = some u13 ∧ W.cell? ⟨b, 14, none⟩ = some u14 ∧ W.cell? ⟨b, 15, none⟩ = some u15 ∧ W.cell? ⟨b, 16, none⟩ = some u16 ∧ W.cell? ⟨b, 17, none⟩ = some u17 := by
  refine ⟨?_, ?_, ?_, ?_, ?_, ?_, ?_, ?_, ?_, ?_, ?_, ?_, ?_, ?_, ?_, ?_, ?_, ?_⟩ <;> simp [World.cell?, h]
end Go.Proofs.Ytkjlfjnncdkmlaa.G

/- Plain: automorphisms, as the law asks. -/
namespace Go.Proofs.Ytkjlfjnncdkmlaa.G
set_option linter.all false
open Go.RowKit Go.Shelf Go.BigFrame
theorem rowsO_elem {W : World} {base q : Nat} {rs : List (List Nat)} {v u0 u1 u2 : Value} (v0 v1 v2 : Value) (h : W.rowsO u32V base 23 22 v rs) (hq : W.heap[q]? = some (.cells #[u0, u1, u2] 28)) :
    (((W.setCell ⟨q, 0, none⟩ v0).setCell ⟨q, 1, none⟩ v1).setCell ⟨q, 2, none⟩ v2).rowsO u32V base 23 22 v rs := by
  have key : ∀ (g : Nat) (c : Array Value) (t : TypeId) (fz : Nat × Nat), W.heap[g]? = some (.cells c t fz) → t ≠ 28 → (((W.setCell ⟨q, 0, none⟩ v0).setCell ⟨q, 1, none⟩ v1).setCell ⟨q, 2, none⟩ v2).heap[g]? = W.heap[g]? := by
    intro g c t fz hg ht
    have hne : g ≠ q := by
      rintro rfl
      rw [hq] at hg
      injection hg with hg
      injection hg with _ hg _
      exact ht hg.symm
    rw [Below.heap_setCell _ _ _ _ hne, Below.heap_setCell _ _ _ _ hne, Below.heap_setCell _ _ _ _ hne]
  obtain ⟨vs, h1, h2, h3⟩ := h
  exact ⟨vs, h1, h2.keptBy fun g c fz _ hg => key g c _ fz hg (by decide), fun i r hr => by
    obtain ⟨u, k1, k2⟩ := h3 i r hr
    exact ⟨u, k1, k2.keptBy fun g c fz _ hg => key g c _ fz hg (by decide)⟩⟩
end Go.Proofs.Ytkjlfjnncdkmlaa.G

/- Walks: the reference's multiple of an element. -/
namespace Go.Proofs.Ytkjlfjnncdkmlaa.G
set_option linter.all false
open Go.RowKit Go.Shelf Go.BigFrame
attribute [local go_sem] Oper.semAt_some
theorem resN_zero (q : Nat) : resN q 0 = 0 := by unfold resN; simp
theorem zero_get (ml : List Nat) (n i j : Nat) (hi : i < ml.length) : ((intRows ml (List.replicate n 0)).getD i []).getD j 0 = 0 := by
  unfold intRows
  rw [List.getD_eq_getElem?_getD, List.getD_eq_getElem?_getD, List.getElem?_map, List.getElem?_eq_getElem hi]
  simp only [Option.map_some, Option.getD_some, List.map_replicate, resN_zero]
  rw [List.getElem?_replicate]
  split <;> rfl
theorem zero_zip (m : Int) (n : Nat) (ml : List Nat) (xs : List (List Nat)) : zipRows (sumRow m n) ml (intRows ml (List.replicate n 0)) xs ml.length = zipRows (mulR m n) ml xs xs ml.length :=
  zip_ext fun i hi => by
    unfold mulR sumRow
    apply List.map_congr_left
    intro j _
    rw [zero_get ml n i j hi]
    rfl
theorem intsB_zeros {n lv : Nat} {chain : List Nat} {sp : Nat} {sa : Bool} {xs : List (List Nat)} (h : checkB (n : Int) chain sp (lv : Int) sa xs = true) : intsB (n : Int) chain sp (lv : Int) sa (List.replicate n 0) = true := by
  unfold checkB at h
  unfold intsB
  simp only [Bool.and_eq_true] at h ⊢
  exact ⟨h.1, by simp⟩
set_option maxRecDepth 100000 in
set_option maxHeartbeats 40000000 in
theorem rmulint_any (N pr pw wt er : Int) (cv : Value) (chain : List Nat) (sp : Nat) (la : Int) (sa : Bool) (av : Value) (xs : List (List Nat)) (m : Int) (hm1 : -9223372036854775808 ≤ m) (hm2 : m ≤ 9223372036854775807) (w : World) (hr : w.reads w.heap.size cv (chain.map u32V)) (ha : w.rows u32V w.heap.size av xs) :
    Calls Try.prog 28 #[.agg #[.int .i64 N, .int .u32 pr, .int .i64 pw, cv, .int .u32 (sp : Int), .int .i64 wt, .int .u32 er], .agg #[.int .i64 la, .bool sa, av], .int .i64 m] w (EltPost (checkB N chain sp la sa xs) la sa (zipRows (mulR m N.toNat) (modl chain sp la.toNat sa) xs xs (modl chain sp la.toNat sa).length) w) := by
  obtain ⟨r, hrr⟩ : ∃ r, r = (checkB N chain sp la sa xs) := ⟨_, rfl⟩
  rw [← hrr]
  obtain ⟨mr, hmr⟩ : ∃ mr, mr = zipRows (mulR m N.toNat) (modl chain sp la.toNat sa) xs xs (modl chain sp la.toNat sa).length := ⟨_, rfl⟩
  rw [← hmr]
  obtain ⟨W0, hW0⟩ : ∃ W0, W0 = ((w.alloc (.cells #[.int .i64 N, .int .u32 pr, .int .i64 pw, cv, .int .u32 (sp : Int), .int .i64 wt, .int .u32 er] 25)).alloc (.cells #[.int .i64 la, .bool sa, av] 28)).alloc (.cells #[.int .i64 0, .bool false, .slice none 0 0] 28) := ⟨_, rfl⟩
  have hB0 : Below w.heap.size w W0 := by rw [hW0]; exact (((Below.refl _ w).alloc (Nat.le_refl _) _).alloc (by simp) _).alloc (by first | (simp; done) | (simp; omega)) _
  have g0 : W0.heap[w.heap.size]? = some (.cells #[.int .i64 N, .int .u32 pr, .int .i64 pw, cv, .int .u32 (sp : Int), .int .i64 wt, .int .u32 er] 25) := by rw [hW0, Below.heap_alloc _ _ _ (by first | (simp; done) | (simp; omega)), Below.heap_alloc _ _ _ (by simp)]; exact alloc_last _ _ rfl
  have e0 : W0.heap[w.heap.size + 1]? = some (.cells #[.int .i64 la, .bool sa, av] 28) := by rw [hW0, Below.heap_alloc _ _ _ (by simp)]; exact alloc_last _ _ (by simp)
  have e2 : W0.heap[w.heap.size + 1 + 1]? = some (.cells #[.int .i64 0, .bool false, .slice none 0 0] 28) := by rw [hW0]; exact alloc_last _ _ (by simp)
  have hz0 := lt_of_heap e2
  have hsz := hB0.size
  have RP := hR (Lib.hid hr) hB0
  have RA := hRow (Lib.hid ha) hB0
  have HT := Lib.hid (rcheck_any N pr pw wt er _ chain sp la sa _ xs W0 RP.out RA.out)
  unfold ErrPost errI at HT
  rw [← hrr] at HT
  have G := Lib.hid g0
  have E := Lib.hid e0
  have HE2 := Lib.hid e2
  have HW0 := Lib.hid hW0
  have HRR := Lib.hid hrr
  have HMR := Lib.hid hmr
  have B := Lib.hid hB0
  obtain ⟨HPOST, hpost⟩ : ∃ R, R = EltPost r la sa mr w := ⟨_, rfl⟩
  rw [← hpost]
  have HP := Lib.hid hpost
  obtain ⟨c0, c1, c2, c3, c4, c5, c6⟩ := par_cells g0
  obtain ⟨k0, k1, k2, -, -, -⟩ := elem_cells e0
  clear hr ha g0 e0 e2 hW0 hrr hmr hpost hB0
  go_enter Try.func28, Try.ntmps28
  go_upto_region 1 with (fail)
  rw [← HW0.out]
  obtain ⟨p, hp⟩ : ∃ p, p = w.heap.size := ⟨_, rfl⟩
  rw [← hp] at G E HE2 c0 c1 c2 c3 c4 c5 c6 k0 k1 k2 hz0 hsz ⊢
  have HPP := Lib.hid hp
  cases r with
  | false =>
    clear hp
    go_wp2_with fail
    (with_reducible refine HT.out.mono ?_)
    rintro e w1 ⟨rfl, hb1⟩
    replace HE2 := hG HE2 hb1
    replace B := hB B hb1
    obtain ⟨q0, q1, q2, f0, f1, f2⟩ := elem_cells HE2.out
    clear hb1 c0 c1 c2 c3 c4 c5 c6 k0 k1 k2
    go_wp2
    rw [HP.out]
    refine bodyPost_ret (v := .tuple #[.agg #[.int .i64 0, .bool false, .slice none 0 0], .int .i64 2]) ?_ rfl (EltPost.no_ ?_)
    · simp [results, Try.results28, go_sem, q0, q1, q2]
    · exact ((B.out.setCell (by rw [HPP.out]; simp; omega) _).setCell (by rw [HPP.out]; simp; omega) _).setCell (by rw [HPP.out]; simp; omega) _
  | true =>
  obtain ⟨n, lv, hN, hla, i1, i2, i3, i4, i5, i6, i7⟩ := checkB_elt HRR.out.symm
  subst hN hla
  clear hp
  obtain ⟨zs, hzs⟩ : ∃ z, z = intRows (modl chain sp lv sa) (List.replicate n 0) := ⟨_, rfl⟩
  have HINT : Hid (∀ (W : World) (v : Value), W.reads W.heap.size cv (chain.map u32V) → W.reads W.heap.size v ((List.replicate n 0).map i64V) → Calls Try.prog 26 #[.agg #[.int .i64 (n : Int), .int .u32 pr, .int .i64 pw, cv, .int .u32 (sp : Int), .int .i64 wt, .int .u32 er], .int .i64 (lv : Int), .bool sa, v] W (EltPost true (lv : Int) sa zs W)) := fun W v h1 h2 => by
    have := rfromInts_any (n : Int) pr pw wt er cv chain sp (lv : Int) sa v (List.replicate n 0) W h1 h2 (fun x hx => by rw [(List.mem_replicate.1 hx).2]; decide)
    rw [intsB_zeros HRR.out.symm, Int.toNat_natCast, ← hzs] at this
    exact this
  have HSUM : Hid (∀ (W : World) (va : Value), W.reads W.heap.size cv (chain.map u32V) → W.rows u32V W.heap.size va zs → W.rows u32V W.heap.size av xs → Calls Try.prog 66 #[.agg #[.int .i64 (n : Int), .int .u32 pr, .int .i64 pw, cv, .int .u32 (sp : Int), .int .i64 wt, .int .u32 er], .agg #[.int .i64 (lv : Int), .bool sa, va], .agg #[.int .i64 (lv : Int), .bool sa, av], .int .i64 m] W (MadeElt (lv : Int) sa mr W)) := fun W va h1 h2 h3 => by
    have := sum_any n lv pr pw wt er cv chain sp sa va av zs xs m W h1 h2 h3 i3 i4 i5 i2 i6 (by rw [hzs]; exact intRows_ok (fun q hq => by have := i6 q hq; omega) _ (by simp)) i7 hm1 hm2
    rw [hzs, zero_zip] at this
    rw [HMR.out]
    simpa only [Int.toNat_natCast] using this
  clear i6 i7 hzs HRR HMR hm1 hm2
  have hmk : ∀ W : World, (Instr.makeSlice 29 (.int .i64 (n : Int)) (.int .i64 (n : Int))).run Try.prog W = .ok (.slice (some ⟨W.heap.size, 0, none⟩) n n) (W.alloc (.cells (zrow64 n) 2)) := fun W => make_i64 n (by omega) W
  go_wp2_with fail
  (with_reducible refine HT.out.mono ?_)
  rintro e v ⟨rfl, hb⟩
  have HZV := Lib.hid hb.size
  replace B := hB B hb
  replace G := hG G hb
  replace E := hG E hb
  replace HE2 := hG HE2 hb
  replace RP := hR RP hb
  replace RA := hRow RA hb
  clear hb HT c0 c1 c2 c3 c4 c5 c6 k0 k1 k2
  go_upto_region 3 with (fail)
  have hS0 : ∀ W, Below v.heap.size v W → W.cell? ⟨p, 0, none⟩ = some (.int .i64 (n : Int)) ∧ W.cell? ⟨p, 1, none⟩ = some (.int .u32 pr) ∧ W.cell? ⟨p, 2, none⟩ = some (.int .i64 pw) ∧ W.cell? ⟨p, 3, none⟩ = some cv ∧ W.cell? ⟨p, 4, none⟩ = some (.int .u32 (sp : Int)) ∧ W.cell? ⟨p, 5, none⟩ = some (.int .i64 wt) ∧ W.cell? ⟨p, 6, none⟩ = some (.int .u32 er) ∧ W.cell? ⟨p + 1, 0, none⟩ = some (.int .i64 (lv : Int)) ∧ W.cell? ⟨p + 1, 1, none⟩ = some (.bool sa) := fun W hb => by
    obtain ⟨c0, c1, c2, c3, c4, c5, c6⟩ := par_cells (hG G hb).out
    obtain ⟨k0, k1, k2, -, -, -⟩ := elem_cells (hG E hb).out
    exact ⟨c0, c1, c2, c3, c4, c5, c6, k0, k1⟩
  refine wp_region_AE 13 11 v.heap.size (fun W => W.cell? ⟨p, 0, none⟩ = some (.int .i64 (n : Int)) ∧ W.cell? ⟨p, 1, none⟩ = some (.int .u32 pr) ∧ W.cell? ⟨p, 2, none⟩ = some (.int .i64 pw) ∧ W.cell? ⟨p, 3, none⟩ = some cv ∧ W.cell? ⟨p, 4, none⟩ = some (.int .u32 (sp : Int)) ∧ W.cell? ⟨p, 5, none⟩ = some (.int .i64 wt) ∧ W.cell? ⟨p, 6, none⟩ = some (.int .u32 er) ∧ W.cell? ⟨p + 1, 0, none⟩ = some (.int .i64 (lv : Int)) ∧ W.cell? ⟨p + 1, 1, none⟩ = some (.bool sa)) (fun W => Below v.heap.size v W) (fun j => decide (13 ≤ j)) (by kernel_rfl) rfl (by kernel_rfl) (fun _ _ _ _ h => h) (by kernel_rfl) (fact_below (Nat.le_refl _) hS0) ((Below.refl _ _).drew) (fun hF => ?_)
  refine wpAnyA_alloc 12 (.cells #[.int .i64 0, .bool false, .slice none 0 0] 28) (by kernel_rfl) rfl rfl (by kernel_rfl) (by kernel_rfl) (fun _ => rfl) (fun _ _ => rfl) (fun _ _ _ _ h => h) hF ?_
  try simp only [Act.put, List.setIfInBounds_toArray, List.set_cons_zero, List.set_cons_succ]
  refine wpAnyA_take 0 (v := ?_) (by kernel_rfl) rfl rfl (by kernel_rfl) (by kernel_rfl) (fun _ _ _ h => h) (Or.inl ⟨by rfl, ?_⟩) (by assumption) ?_
  rotate_left
  · (intro wq hSq; (try dsimp only at hSq); go_simp; try with_reducible rfl)
  try simp only [Act.put, List.setIfInBounds_toArray, List.set_cons_zero, List.set_cons_succ]
  refine wpAnyA_take 1 (v := ?_) (by kernel_rfl) rfl rfl (by kernel_rfl) (by kernel_rfl) (fun _ _ _ h => h) (Or.inl ⟨by rfl, ?_⟩) (by assumption) ?_
  rotate_left
  · (intro wq hSq; (try dsimp only at hSq); go_simp; try with_reducible rfl)
  try simp only [Act.put, List.setIfInBounds_toArray, List.set_cons_zero, List.set_cons_succ]
  refine wpAnyA_take 2 (v := ?_) (by kernel_rfl) rfl rfl (by kernel_rfl) (by kernel_rfl) (fun _ _ _ h => h) (Or.inl ⟨by rfl, ?_⟩) (by assumption) ?_
  rotate_left
  · (intro wq hSq; (try dsimp only at hSq); go_simp; try with_reducible rfl)
  try simp only [Act.put, List.setIfInBounds_toArray, List.set_cons_zero, List.set_cons_succ]
  refine wpAnyA_take 3 (v := ?_) (by kernel_rfl) rfl rfl (by kernel_rfl) (by kernel_rfl) (fun _ _ _ h => h) (Or.inl ⟨by rfl, ?_⟩) (by assumption) ?_
  rotate_left
  · (intro wq hSq; (try dsimp only at hSq); go_simp; try with_reducible rfl)
  try simp only [Act.put, List.setIfInBounds_toArray, List.set_cons_zero, List.set_cons_succ]
  refine wpAnyA_take 4 (v := ?_) (by kernel_rfl) rfl rfl (by kernel_rfl) (by kernel_rfl) (fun _ _ _ h => h) (Or.inl ⟨by rfl, ?_⟩) (by assumption) ?_
  rotate_left
  · (intro wq hSq; (try dsimp only at hSq); go_simp; try with_reducible rfl)
  try simp only [Act.put, List.setIfInBounds_toArray, List.set_cons_zero, List.set_cons_succ]
  refine wpAnyA_take 5 (v := ?_) (by kernel_rfl) rfl rfl (by kernel_rfl) (by kernel_rfl) (fun _ _ _ h => h) (Or.inl ⟨by rfl, ?_⟩) (by assumption) ?_
  rotate_left
  · (intro wq hSq; (try dsimp only at hSq); go_simp; try with_reducible rfl)
  try simp only [Act.put, List.setIfInBounds_toArray, List.set_cons_zero, List.set_cons_succ]
  refine wpAnyA_take 6 (v := ?_) (by kernel_rfl) rfl rfl (by kernel_rfl) (by kernel_rfl) (fun _ _ _ h => h) (Or.inl ⟨by rfl, ?_⟩) (by assumption) ?_
  rotate_left
  · (intro wq hSq; (try dsimp only at hSq); go_simp; try with_reducible rfl)
  try simp only [Act.put, List.setIfInBounds_toArray, List.set_cons_zero, List.set_cons_succ]
  refine wpAnyA_step 7 (by kernel_rfl) rfl rfl (fun wq (hFq : Below v.heap.size v wq) K hK => ?_)
  go_simp
  have hbm := below_new wq (.cells (zrow64 n) 2)
  have hzr := z_reads n (by omega) wq
  have hdA : Below v.heap.size v (wq.alloc (.cells (zrow64 n) 2)) := below_via hFq hbm
  obtain ⟨gz, hgz⟩ : ∃ g, g = wq.heap.size := ⟨_, rfl⟩
  rw [← hgz] at hzr ⊢
  have HWA := Lib.hid (show Below wq.heap.size wq (wq.alloc (.cells (zrow64 n) 2)) from hbm)
  refine hK.out _ _ hbm (fun W => Below (wq.alloc (.cells (zrow64 n) 2)).heap.size (wq.alloc (.cells (zrow64 n) 2)) W) (fact_below hdA.size (fun W hb => hS0 W (below_via hdA hb))) (Below.refl _ _) ?_
  generalize wq.alloc (.cells (zrow64 n) 2) = vA at hzr hdA ⊢
  have hF6 : Fact v.heap.size (fun W => W.cell? ⟨p, 0, none⟩ = some (.int .i64 (n : Int)) ∧ W.cell? ⟨p, 1, none⟩ = some (.int .u32 pr) ∧ W.cell? ⟨p, 2, none⟩ = some (.int .i64 pw) ∧ W.cell? ⟨p, 3, none⟩ = some cv ∧ W.cell? ⟨p, 4, none⟩ = some (.int .u32 (sp : Int)) ∧ W.cell? ⟨p, 5, none⟩ = some (.int .i64 wt) ∧ W.cell? ⟨p, 6, none⟩ = some (.int .u32 er) ∧ W.cell? ⟨p + 1, 0, none⟩ = some (.int .i64 (lv : Int)) ∧ W.cell? ⟨p + 1, 1, none⟩ = some (.bool sa)) (fun W => Below vA.heap.size vA W) := fact_below hdA.size (fun W hb => hS0 W (below_via hdA hb))
  have HZ := Lib.hid hzr
  clear hK K hFq hbm hF hgz hzr HWA
  try simp only [Act.put, List.setIfInBounds_toArray, List.set_cons_zero, List.set_cons_succ]
  refine wpAnyA_step 8 (by kernel_rfl) rfl rfl (fun wq (hFq : Below vA.heap.size vA wq) K hK => ?_)
  go_simp
  (with_reducible refine (HINT.out wq _ (hR RP (below_via hdA hFq)).out (hR HZ hFq).out).mono ?_)
  rintro e vB ⟨he, hb⟩
  rw [if_pos rfl] at he
  obtain ⟨rv, rfl, hrow⟩ := he
  obtain ⟨ra, rc, rfl⟩ := hrow.open_
  obtain ⟨nn, hnn⟩ : ∃ z, z = zs.length := ⟨_, rfl⟩
  rw [← hnn] at hrow ⊢
  clear hnn
  have hdB : Below v.heap.size v vB := below_via (below_via hdA hFq) hb
  have hFB : Fact v.heap.size (fun W => W.cell? ⟨p, 0, none⟩ = some (.int .i64 (n : Int)) ∧ W.cell? ⟨p, 1, none⟩ = some (.int .u32 pr) ∧ W.cell? ⟨p, 2, none⟩ = some (.int .i64 pw) ∧ W.cell? ⟨p, 3, none⟩ = some cv ∧ W.cell? ⟨p, 4, none⟩ = some (.int .u32 (sp : Int)) ∧ W.cell? ⟨p, 5, none⟩ = some (.int .i64 wt) ∧ W.cell? ⟨p, 6, none⟩ = some (.int .u32 er) ∧ W.cell? ⟨p + 1, 0, none⟩ = some (.int .i64 (lv : Int)) ∧ W.cell? ⟨p + 1, 1, none⟩ = some (.bool sa)) (fun W => Below vB.heap.size vB W) := fact_below hdB.size (fun W hb => hS0 W (below_via hdB hb))
  refine hK.out _ _ hb (fun W => Below vB.heap.size vB W) hFB (Below.refl _ _) ?_
  clear hK K hFq hb hF6 hdA HZ
  try simp only [Act.put, List.setIfInBounds_toArray, List.set_cons_zero, List.set_cons_succ]
  have hF := hFB
  refine wpAnyA_take 9 (v := ?_) (by kernel_rfl) rfl rfl (by kernel_rfl) (by kernel_rfl) (fun _ _ _ h => h) (Or.inl ⟨by rfl, ?_⟩) (by assumption) ?_
  rotate_left
  · (intro wq hSq; (try dsimp only at hSq); go_simp; try with_reducible rfl)
  try simp only [Act.put, List.setIfInBounds_toArray, List.set_cons_zero, List.set_cons_succ]
  refine wpAnyA_take 10 (v := ?_) (by kernel_rfl) rfl rfl (by kernel_rfl) (by kernel_rfl) (fun _ _ _ h => h) (Or.inl ⟨by rfl, ?_⟩) (by assumption) ?_
  rotate_left
  · (intro wq hSq; (try dsimp only at hSq); go_simp; try with_reducible rfl)
  try simp only [Act.put, List.setIfInBounds_toArray, List.set_cons_zero, List.set_cons_succ]
  refine wpAnyA_take 11 (v := ?_) (by kernel_rfl) rfl rfl (by kernel_rfl) (by kernel_rfl) (fun _ _ _ h => h) (Or.inl ⟨by rfl, ?_⟩) (by assumption) ?_
  rotate_left
  · (intro wq hSq; (try dsimp only at hSq); go_simp; try with_reducible rfl)
  try simp only [Act.put, List.setIfInBounds_toArray, List.set_cons_zero, List.set_cons_succ]
  refine wpAnyA_end (by kernel_rfl) (fun x0 (hFx : Below vB.heap.size vB x0) => ?_)
  intro q hq hq7
  have hrow0 := hrow.below hFx
  have hd0 : Below v.heap.size v x0 := below_via hdB hFx
  clear hF hFB hS0 hdB hFx hrow
  obtain ⟨e0, e1, e2, y0, y1, y2⟩ := elem_cells hq7
  refine wpAny_of_D (S := fun _ => True) (late := fun _ => true) _ _ _ _ ?_
  refine wpAnyD_step 13 (by kernel_rfl) rfl rfl (fun K hK => ?_)
  simp only [moreAfter]
  go_simp
  refine hK.out _ _ ?_
  clear hK K e0 e1 e2 y0 y1 y2
  try simp only [Act.put, List.setIfInBounds_toArray, List.set_cons_zero, List.set_cons_succ]
  have hd1 : Below v.heap.size v (((x0.setCell ⟨q, 0, none⟩ (.int .i64 (lv : Int))).setCell ⟨q, 1, none⟩ (.bool sa)).setCell ⟨q, 2, none⟩ (.slice ra nn rc)) := ((hd0.setCell hq _).setCell hq _).setCell hq _
  have hr1 := (rowsO_elem (.int .i64 (lv : Int)) (.bool sa) (.slice ra nn rc) hrow0 hq7).rows
  have m0 : (((x0.setCell ⟨q, 0, none⟩ (.int .i64 (lv : Int))).setCell ⟨q, 1, none⟩ (.bool sa)).setCell ⟨q, 2, none⟩ (.slice ra nn rc)).heap[q]? = some (.cells #[.int .i64 (lv : Int), .bool sa, .slice ra nn rc] 28) := by simp [World.setCell, Array.getElem?_modify, hq7]
  clear hq7 hd0 hq hrow0
  generalize ((x0.setCell ⟨q, 0, none⟩ (.int .i64 (lv : Int))).setCell ⟨q, 1, none⟩ (.bool sa)).setCell ⟨q, 2, none⟩ (.slice ra nn rc) = vC at m0 hd1 hr1 ⊢
  refine wpAnyD_step 14 (by kernel_rfl) rfl rfl (fun K hK => ?_)
  go_simp
  refine hK.out _ _ ?_
  clear hK K
  try simp only [Act.put, List.setIfInBounds_toArray, List.set_cons_zero, List.set_cons_succ]
  refine wpAnyD_end (by kernel_rfl) ?_
  have E7 : Hid (ElAt vC q (lv : Int) sa (.slice ra nn rc) zs) := ⟨m0, hr1⟩
  have HZ0 := Lib.hid (Nat.le_trans HZV.out hd1.size)
  replace B := hB B hd1
  replace G := hG G hd1
  replace E := hG E hd1
  replace HE2 := hG HE2 hd1
  replace RP := hR RP hd1
  replace RA := hRow RA hd1
  clear hd1 hr1 m0 HINT hmk
  obtain ⟨c0, c1, c2, c3, c4, c5, c6⟩ := par_cells G.out
  obtain ⟨k0, k1, k2, -, -, -⟩ := elem_cells E.out
  obtain ⟨j0, j1, j2, -, -, -⟩ := elem_cells E7.out.heap
  go_wp2_with fail
  (with_reducible refine (HSUM.out _ _ RP.out E7.out.rows RA.out).mono ?_)
  rintro e w2 ⟨⟨rv, rfl, hrv⟩, hb⟩
  have hvs := B.out.size
  replace B := hB B hb
  replace HE2 := hG HE2 hb
  obtain ⟨q0, q1, q2, f0, f1, f2⟩ := elem_cells HE2.out
  obtain ⟨ra2, rc2, rfl⟩ := hrv.open_
  have HRV := Lib.hid hrv
  have hlz : p + 1 + 1 < vC.heap.size := by
    have h1 := lt_of_heap E7.out.heap
    have h2 := lt_of_heap HE2.out
    have h3 := hb.size
    by_cases hh : p + 1 + 1 < vC.heap.size
    · exact hh
    · exfalso; exact hh (Nat.lt_of_lt_of_le hz0 HZ0.out)
  clear c0 c1 c2 c3 c4 c5 c6 k0 k1 k2 j0 j1 j2 hrv hb
  go_wp2
  obtain ⟨W6, hW6⟩ : ∃ W6, W6 = ((w2.setCell ⟨p + 1 + 1, 0, none⟩ (.int .i64 (lv : Int))).setCell ⟨p + 1 + 1, 1, none⟩ (.bool sa)).setCell ⟨p + 1 + 1, 2, none⟩ (.slice ra2 mr.length rc2) := ⟨_, rfl⟩
  obtain ⟨h6, -, hB6⟩ := elem_store HE2.out hW6
  have hr6 : W6.rowsO u32V vC.heap.size 23 22 (.slice ra2 mr.length rc2) mr := by
    rw [hW6]; exact ((HRV.out.setCell (by simp; omega) _).setCell (by simp; omega) _).setCell (by simp; omega) _
  obtain ⟨x0, x1, x2, -, -, -⟩ := elem_cells h6
  rw [← hW6, HP.out]
  refine bodyPost_ret (v := .tuple #[.agg #[.int .i64 (lv : Int), .bool sa, .slice ra2 mr.length rc2], .int .i64 0]) ?_ rfl (EltPost.ok_ (hr6.mono (by rw [← HPP.out]; omega)) (hB6 _ _ B.out (by rw [← HPP.out]; omega)))
  simp [results, Try.results28, go_sem, x0, x1, x2]
end Go.Proofs.Ytkjlfjnncdkmlaa.G

/- Walks: the reference's negative of an element. -/
namespace Go.Proofs.Ytkjlfjnncdkmlaa.G
set_option linter.all false
open Go.RowKit Go.Shelf Go.BigFrame
set_option maxRecDepth 100000 in
set_option maxHeartbeats 8000000 in
theorem rneg_any (N pr pw wt er : Int) (cv : Value) (chain : List Nat) (sp : Nat) (la : Int) (sa : Bool) (av : Value) (xs : List (List Nat)) (w : World) (hr : w.reads w.heap.size cv (chain.map u32V)) (ha : w.rows u32V w.heap.size av xs) :
    Calls Try.prog 27 #[.agg #[.int .i64 N, .int .u32 pr, .int .i64 pw, cv, .int .u32 (sp : Int), .int .i64 wt, .int .u32 er], .agg #[.int .i64 la, .bool sa, av]] w (EltPost (checkB N chain sp la sa xs) la sa (zipRows (mulR (-1) N.toNat) (modl chain sp la.toNat sa) xs xs (modl chain sp la.toNat sa).length) w) := by
  obtain ⟨W0, hW0⟩ : ∃ W0, W0 = ((w.alloc (.cells #[.int .i64 N, .int .u32 pr, .int .i64 pw, cv, .int .u32 (sp : Int), .int .i64 wt, .int .u32 er] 25)).alloc (.cells #[.int .i64 la, .bool sa, av] 28)).alloc (.cells #[.int .i64 0, .bool false, .slice none 0 0] 28) := ⟨_, rfl⟩
  have hB0 : Below w.heap.size w W0 := by rw [hW0]; exact (((Below.refl _ w).alloc (Nat.le_refl _) _).alloc (by simp) _).alloc (by first | (simp; done) | (simp; omega)) _
  have g0 : W0.heap[w.heap.size]? = some (.cells #[.int .i64 N, .int .u32 pr, .int .i64 pw, cv, .int .u32 (sp : Int), .int .i64 wt, .int .u32 er] 25) := by rw [hW0, Below.heap_alloc _ _ _ (by first | (simp; done) | (simp; omega)), Below.heap_alloc _ _ _ (by simp)]; exact alloc_last _ _ rfl
  have e0 : W0.heap[w.heap.size + 1]? = some (.cells #[.int .i64 la, .bool sa, av] 28) := by rw [hW0, Below.heap_alloc _ _ _ (by simp)]; exact alloc_last _ _ (by simp)
  have e2 : W0.heap[w.heap.size + 1 + 1]? = some (.cells #[.int .i64 0, .bool false, .slice none 0 0] 28) := by rw [hW0]; exact alloc_last _ _ (by simp)
  have hz0 := lt_of_heap e2
  have HR0 := Lib.hid ((hr.below hB0).mono hB0.size)
  have HA0 := Lib.hid ((ha.below hB0).mono hB0.size)
  have HM := Lib.hid (rmulint_any N pr pw wt er cv chain sp la sa av xs (-1) (by decide) (by decide) W0 HR0.out HA0.out)
  obtain ⟨ok, hok⟩ : ∃ ok, ok = checkB N chain sp la sa xs := ⟨_, rfl⟩
  obtain ⟨mr, hmr⟩ : ∃ mr, mr = zipRows (mulR (-1) N.toNat) (modl chain sp la.toNat sa) xs xs (modl chain sp la.toNat sa).length := ⟨_, rfl⟩
  rw [← hok, ← hmr] at HM
  rw [← hok, ← hmr]
  unfold EltPost at HM
  obtain ⟨HPOST, hpost⟩ : ∃ R, R = EltPost ok la sa mr w := ⟨_, rfl⟩
  rw [← hpost]
  have HP := Lib.hid hpost
  obtain ⟨c0, c1, c2, c3, c4, c5, c6⟩ := par_cells g0
  obtain ⟨k0, k1, k2, -, -, -⟩ := elem_cells e0
  have HE2 := Lib.hid e2
  have HW0 := Lib.hid hW0
  have HB0 := Lib.hid hB0
  clear hr ha g0 e0 e2 hW0 hB0 hok hmr hpost
  go_enter Try.func27, Try.ntmps27
  go_upto_region 1 with (fail)
  rw [← HW0.out]
  go_wp2_with fail
  refine HM.out.mono ?_
  rintro e w1 ⟨he, hb1⟩
  have HE := Lib.hid ((hb1.block _ hz0).trans HE2.out)
  obtain ⟨q0, q1, q2, f0, f1, f2⟩ := elem_cells HE.out
  have HBW := Lib.hid (below_via HB0.out hb1)
  have hlz := lt_of_heap HE.out
  clear c0 c1 c2 c3 c4 c5 c6 k0 k1 k2 hz0
  have hs1 := hb1.size
  cases ok with
  | false =>
    rw [if_neg (by decide)] at he
    subst he
    clear hb1
    go_wp2
    rw [HP.out]
    refine bodyPost_ret (v := .tuple #[.agg #[.int .i64 0, .bool false, .slice none 0 0], .int .i64 2]) ?_ rfl (EltPost.no_ ?_)
    · simp [results, Try.results27, go_sem, q0, q1, q2]
    · exact ((HBW.out.setCell (by simp; omega) _).setCell (by simp; omega) _).setCell (by simp; omega) _
  | true =>
    rw [if_pos rfl] at he
    obtain ⟨rv, rfl, hrv⟩ := he
    obtain ⟨ra, rc, rfl⟩ := hrv.open_
    have HRV := Lib.hid hrv
    have hsz := HB0.out.size
    clear hrv hb1
    go_wp2
    obtain ⟨W6, hW6⟩ : ∃ W6, W6 = ((w1.setCell ⟨w.heap.size + 1 + 1, 0, none⟩ (.int .i64 la)).setCell ⟨w.heap.size + 1 + 1, 1, none⟩ (.bool sa)).setCell ⟨w.heap.size + 1 + 1, 2, none⟩ (.slice ra mr.length rc) := ⟨_, rfl⟩
    obtain ⟨h6, -, hB6⟩ := elem_store HE.out hW6
    have hz9 := lt_of_heap HE2.out
    have hr6 : W6.rowsO u32V W0.heap.size 23 22 (.slice ra mr.length rc) mr := by
      rw [hW6]; exact ((HRV.out.setCell (by simp; omega) _).setCell (by simp; omega) _).setCell (by simp; omega) _
    obtain ⟨x0, x1, x2, -, -, -⟩ := elem_cells h6
    rw [← hW6, HP.out]
    refine bodyPost_ret (v := .tuple #[.agg #[.int .i64 la, .bool sa, .slice ra mr.length rc], .int .i64 0]) ?_ rfl (EltPost.ok_ (hr6.mono hsz) (hB6 _ _ HBW.out (by omega)))
    simp [results, Try.results27, go_sem, x0, x1, x2]
end Go.Proofs.Ytkjlfjnncdkmlaa.G

/- Walks: the reference's restriction of an element to fewer moduli of the chain. -/
namespace Go.Proofs.Ytkjlfjnncdkmlaa.G
open Go.RowKit Go.Shelf Go.BigFrame
def resB (N : Int) (chain : List Nat) (sp : Nat) (la : Int) (sa : Bool) (xs : List (List Nat)) (level : Int) : Bool := checkB N chain sp la sa xs && decide (1 ≤ level) && decide (level ≤ la)
set_option maxRecDepth 100000 in
set_option maxHeartbeats 40000000 in
theorem restrict_any (N pr pw wt er : Int) (cv : Value) (chain : List Nat) (sp : Nat) (la : Int) (sa : Bool) (av : Value) (xs : List (List Nat)) (level : Int) (w : World) (hr : w.reads w.heap.size cv (chain.map u32V)) (ha : w.rows u32V w.heap.size av xs) :
    Calls Try.prog 30 #[.agg #[.int .i64 N, .int .u32 pr, .int .i64 pw, cv, .int .u32 (sp : Int), .int .i64 wt, .int .u32 er], .agg #[.int .i64 la, .bool sa, av], .int .i64 level, .bool false] w (EltPost (resB N chain sp la sa xs level) level false (xs.take level.toNat) w) := by
  obtain ⟨r, hrr⟩ : ∃ r, r = resB N chain sp la sa xs level := ⟨_, rfl⟩
  rw [← hrr]
  obtain ⟨mr, hmr⟩ : ∃ mr, mr = xs.take level.toNat := ⟨_, rfl⟩
  rw [← hmr]
  unfold resB at hrr
  obtain ⟨a, cap, rfl, hcap, hmx, -⟩ := reads_u32 hr
  obtain ⟨aa, ac, rfl, hac, ham, has⟩ := ha.shape
  obtain ⟨W0, hW0⟩ : ∃ W0, W0 = ((w.alloc (.cells #[.int .i64 N, .int .u32 pr, .int .i64 pw, .slice a chain.length cap, .int .u32 (sp : Int), .int .i64 wt, .int .u32 er] 25)).alloc (.cells #[.int .i64 la, .bool sa, .slice aa xs.length ac] 28)).alloc (.cells #[.int .i64 0, .bool false, .slice none 0 0] 28) := ⟨_, rfl⟩
  have hB0 : Below w.heap.size w W0 := by rw [hW0]; exact (((Below.refl _ w).alloc (Nat.le_refl _) _).alloc (by simp) _).alloc (by first | (simp; done) | (simp; omega)) _
  have g0 : W0.heap[w.heap.size]? = some (.cells #[.int .i64 N, .int .u32 pr, .int .i64 pw, .slice a chain.length cap, .int .u32 (sp : Int), .int .i64 wt, .int .u32 er] 25) := by rw [hW0, Below.heap_alloc _ _ _ (by first | (simp; done) | (simp; omega)), Below.heap_alloc _ _ _ (by simp)]; exact alloc_last _ _ rfl
  have e0 : W0.heap[w.heap.size + 1]? = some (.cells #[.int .i64 la, .bool sa, .slice aa xs.length ac] 28) := by rw [hW0, Below.heap_alloc _ _ _ (by simp)]; exact alloc_last _ _ (by simp)
  have e2 : W0.heap[w.heap.size + 1 + 1]? = some (.cells #[.int .i64 0, .bool false, .slice none 0 0] 28) := by rw [hW0]; exact alloc_last _ _ (by simp)
  have hz0 := lt_of_heap e2
  have HR0 := Lib.hid ((hr.below hB0).mono hB0.size)
  have HA0 := Lib.hid ((ha.below hB0).mono hB0.size)
  have HT := Lib.hid (rcheck_any N pr pw wt er _ chain sp la sa _ xs W0 HR0.out HA0.out)
  obtain ⟨ck, hck⟩ : ∃ ck, ck = checkB N chain sp la sa xs := ⟨_, rfl⟩
  rw [← hck] at HT hrr
  unfold ErrPost at HT
  obtain ⟨c0, c1, c2, c3, c4, c5, c6⟩ := par_cells g0
  obtain ⟨k0, k1, k2, -, -, -⟩ := elem_cells e0
  have HE0 := Lib.hid e0
  have HE2 := Lib.hid e2
  have HW0 := Lib.hid hW0
  have HRR := Lib.hid hrr
  have HMR := Lib.hid hmr
  have HAS := Lib.hid has
  have HCK := Lib.hid hck
  clear hr ha g0 e0 e2 hW0 hrr hmr has hck
  cases ck
  · obtain rfl : r = false := by rw [HRR.out]; rfl
    go_enter Try.func30, Try.ntmps30
    go_upto_region 1 with (fail)
    rw [← HW0.out]
    go_wp2_with fail
    refine HT.out.mono ?_
    rintro e w1 ⟨rfl, hb1⟩
    have he1 := (hb1.block _ hz0).trans HE2.out
    obtain ⟨q0, q1, q2, f0, f1, f2⟩ := elem_cells he1
    have hBw := hB0.trans (hb1.mono hB0.size)
    clear he1
    go_wp2
    refine bodyPost_ret (v := .tuple #[.agg #[.int .i64 0, .bool false, .slice none 0 0], .int .i64 2]) ?_ rfl (EltPost.no_ ?_)
    · simp [results, Try.results30, go_sem, q0, q1, q2]
    · exact ((hBw.setCell (by simp; omega) _).setCell (by simp; omega) _).setCell (by simp; omega) _
  have hrr2 : r = (decide (1 ≤ level) && decide (level ≤ la)) := by rw [HRR.out]; rfl
  obtain ⟨n, lv, rfl, rfl, i1, i2, i3, i4, i5, i6, i7⟩ := checkB_elt HCK.out.symm
  have HEK := Lib.hid i7
  have HML := Lib.hid (modl_length chain sp lv sa i4)
  have HRR2 := Lib.hid hrr2
  clear i6 i7 hrr2 HRR HCK
  go_enter Try.func30, Try.ntmps30
  go_upto_region 1 with (fail)
  rw [← HW0.out]
  go_wp2_with fail
  refine HT.out.mono ?_
  rintro e w1 ⟨rfl, hb1⟩
  have hs1 := hb1.size
  have he1 := (hb1.block (w.heap.size + 1) (by omega)).trans HE0.out
  have hf1 := (hb1.block _ hz0).trans HE2.out
  clear c0 c1 c2 c3 c4 c5 c6 k0 k1 k2
  obtain ⟨k0, k1, k2, -, -, -⟩ := elem_cells he1
  obtain ⟨q0, q1, q2, f0, f1, f2⟩ := elem_cells hf1
  have hBw := hB0.trans (hb1.mono hB0.size)
  have l2 : w.heap.size + 1 + 1 < w1.heap.size := by omega
  by_cases h1 : 1 ≤ level
  case neg =>
    obtain rfl : r = false := by rw [HRR2.out]; simp [h1]
    have t1 : level < 1 := by omega
    clear he1 hf1 h1
    go_wp2
    refine bodyPost_ret (v := .tuple #[.agg #[.int .i64 0, .bool false, .slice none 0 0], .int .i64 2]) ?_ rfl (EltPost.no_ ?_)
    · simp [results, Try.results30, go_sem, q0, q1, q2]
    · exact ((hBw.setCell (by simp; omega) _).setCell (by simp; omega) _).setCell (by simp; omega) _
  by_cases h2 : level ≤ (lv : Int)
  case neg =>
    obtain rfl : r = false := by rw [HRR2.out]; simp [h2]
    have t1 : (lv : Int) < level := by omega
    clear he1 hf1 h2
    go_wp2
    refine bodyPost_ret (v := .tuple #[.agg #[.int .i64 0, .bool false, .slice none 0 0], .int .i64 2]) ?_ rfl (EltPost.no_ ?_)
    · simp [results, Try.results30, go_sem, q0, q1, q2]
    · exact ((hBw.setCell (by simp; omega) _).setCell (by simp; omega) _).setCell (by simp; omega) _
  obtain rfl : r = true := by rw [HRR2.out]; simp [h1, h2]
  obtain ⟨L, rfl⟩ : ∃ L : Nat, level = (L : Int) := ⟨level.toNat, by omega⟩
  have hLl : L ≤ lv := by omega
  have t9 : ¬ lv < L := by omega
  have HMR2 : Hid (mr = xs.take L) := by show _ = _; rw [HMR.out, Int.toNat_natCast]
  obtain ⟨xl, hxl⟩ : ∃ m, m = xs.length := ⟨_, rfl⟩
  have hxlL : lv ≤ xl := by
    have := HEK.out.1
    rw [hxl, this, HML.out]; omega
  rw [← hxl] at k2 hac he1
  have HXL := Lib.hid hxl
  obtain ⟨W3, hW3⟩ : ∃ W3, W3 = w1.alloc (.cells #[.int .i64 (L : Int), .bool false, .slice none 0 0] 28) := ⟨_, rfl⟩
  have hb3 : Below w1.heap.size w1 W3 := by rw [hW3]; exact (Below.refl _ _).alloc (Nat.le_refl _) _
  have g3 : W3.heap[w1.heap.size]? = some (.cells #[.int .i64 (L : Int), .bool false, .slice none 0 0] 28) := by rw [hW3]; exact alloc_last _ _ rfl
  have hz3 := lt_of_heap g3
  have hBw3 := hBw.trans (hb3.mono hBw.size)
  have HAC := Lib.hid ((hb3.block (w.heap.size + 1) (by omega)).trans he1)
  have HRC := Lib.hid ((hb3.block (w.heap.size + 1 + 1) (by omega)).trans hf1)
  have hO0 : Hid (OutE w W3 w1.heap.size (L : Int) false (xs.take 0) W3) := OutE.start (w := w) g3 hBw3
  have HA4 : Hid (∀ (j : Nat) (r : List Nat), xs[j]? = some r → ∃ b off b2 c2, aa = some ⟨b, off, none⟩ ∧ b < w.heap.size ∧ W3.cell? ⟨b, off + j, none⟩ = some (.slice b2 r.length c2) ∧ W3.reads w.heap.size (.slice b2 r.length c2) (r.map u32V)) := by
    intro j x hj
    obtain ⟨b, off, b2, c2, q1, q2, q3, q4⟩ := HAS.out j x hj
    exact ⟨b, off, b2, c2, q1, q2, (hBw3.cell (p := ⟨b, off + j, none⟩) q2).trans q3, q4.below hBw3⟩
  have HW3 := Lib.hid hW3
  obtain ⟨i0, hi0, hiz, hiz1, hizb⟩ := info_parts info32
  obtain ⟨i1', hi1, hi1z, hi1z1, hi1b⟩ := info_parts infoU32r
  clear g3 hW3 he1 hf1 hxl hb3 hb1 hB0 hBw3
  go_upto_region 4 with (fail)
  rw [← HW3.out]
  clear k0 k1 k2 q0 q1 q2 f0 f1 f2
  go_wp2_with fail
  go_loopw [11] (fun ii wr => ∃ k : Nat, k ≤ L ∧ ii = .int .i64 (k : Int) ∧ Hid (OutE w W3 w1.heap.size (L : Int) false (xs.take k) wr)) (fun ii _ => L - (intOf ii).toNat)
  case atStart => exact ⟨0, Nat.zero_le _, rfl, hO0⟩
  case round =>
    obtain ⟨wo, rfl⟩ : ∃ x, x = wr := ⟨_, rfl⟩
    clear hO0
    obtain ⟨k, hk, rfl, hO⟩ := hrel
    obtain ⟨hsr, hsb⟩ := hO.out.size
    have hol : (xs.take k).length = k := by rw [List.length_take, ← HXL.out]; omega
    by_cases hlt : k < L
    · obtain ⟨x, hx⟩ : ∃ x, xs[k]? = some x := ⟨xs[k]'(by rw [← HXL.out]; omega), List.getElem?_eq_getElem _⟩
      obtain ⟨ab, ao, axb, axc, rfl, hab, hcx, hxr⟩ := HA4.out k x hx
      have hx32 := (HEK.out.2 k x hx).1
      have HX32 := Lib.hid hx32
      have s2 : wo.cell? ⟨ab, ao + k, none⟩ = some (.slice axb n axc) := by rw [hO.out.cell (by omega) (by omega), hcx, hx32]
      obtain ⟨-, -, s4, -, -, -⟩ := elem_cells ((hO.out.block (b := w.heap.size + 1) (by omega) (by omega)).trans HAC.out)
      obtain ⟨oa, oc, o1, o2⟩ := hO.out.open_
      rw [hol] at o1 o2
      obtain ⟨-, -, s6, -, -, -⟩ := elem_cells o1
      have hxr2 : wo.reads wo.heap.size (.slice axb n axc) (x.map u32V) := by
        have := (hO.out.reads (B := w.heap.size) (by omega) (by omega) hxr).mono (show w.heap.size ≤ wo.heap.size by omega)
        rw [hx32] at this; exact this
      have HX := Lib.hid hx
      have HO1 := Lib.hid o1
      have HO2 := Lib.hid o2
      have HXR := Lib.hid hxr2
      have hl6 : (xs.take k ++ [x]).length = k + 1 := by rw [List.length_append, hol]; rfl
      have n2 : ¬ ab = w1.heap.size := by omega
      have n4 : ¬ w.heap.size + 1 = w1.heap.size := by omega
      have p0 : (wo.alloc (.cells #[] 22)).cell? ⟨w1.heap.size, 2, none⟩ = some (.slice oa k oc) := (World.cell?_alloc_lt wo _ ⟨w1.heap.size, 2, none⟩ hsb).trans s6
      have u1 : w.heap.size + 1 < wo.heap.size := by omega
      have u4 : ab < wo.heap.size := by omega
      have z0 : (0 : Int) ≤ (k : Int) := by omega
      have z1 : (k : Int) < (xl : Int) := by omega
      clear hx hcx hxr o1 o2 hxr2 hx32
      go_wp2_with fail
      refine wp_region_line (fun w' => w'.cell? ⟨w1.heap.size, 2, none⟩ = some (.slice oa k oc) ∧ w'.cell? ⟨w.heap.size + 1, 2, none⟩ = some (.slice (some ⟨ab, ao, none⟩) xl ac) ∧ w'.cell? ⟨ab, ao + k, none⟩ = some (.slice axb n axc)) 12 (by kernel_rfl) ⟨s6, s4, s2⟩ (fun hHeld => ?_)
      refine wpAnyT_take 0 (v := ?_) (by kernel_rfl) rfl (by kernel_rfl) (by decide) rfl (by kernel_rfl) (by kernel_rfl) (fun _ _ _ h => h) (Or.inl ⟨by rfl, ?_⟩) (by assumption) ?_
      rotate_left
      · (intro wq hSq; (try dsimp only at hSq); go_simp; try with_reducible rfl)
      try simp only [Act.put, List.setIfInBounds_toArray, List.set_cons_zero, List.set_cons_succ]
      refine wpAnyT_take 1 (v := ?_) (by kernel_rfl) rfl (by kernel_rfl) (by decide) rfl (by kernel_rfl) (by kernel_rfl) (fun _ _ _ h => h) (Or.inl ⟨by rfl, ?_⟩) (by assumption) ?_
      rotate_left
      · (intro wq hSq; (try dsimp only at hSq); go_simp; try with_reducible rfl)
      try simp only [Act.put, List.setIfInBounds_toArray, List.set_cons_zero, List.set_cons_succ]
      refine wpAnyT_take 3 (v := ?_) (by kernel_rfl) rfl (by kernel_rfl) (by decide) rfl (by kernel_rfl) (by kernel_rfl) (fun _ _ _ h => h) (Or.inl ⟨by rfl, ?_⟩) (by assumption) ?_
      rotate_left
      · (intro wq hSq; (try dsimp only at hSq); go_simp; try with_reducible rfl)
      try simp only [Act.put, List.setIfInBounds_toArray, List.set_cons_zero, List.set_cons_succ]
      refine wpAnyT_take 4 (v := ?_) (by kernel_rfl) rfl (by kernel_rfl) (by decide) rfl (by kernel_rfl) (by kernel_rfl) (fun _ _ _ h => h) (Or.inl ⟨by rfl, ?_⟩) (by assumption) ?_
      rotate_left
      · (intro wq hSq; (try dsimp only at hSq); go_simp; try with_reducible rfl)
      try simp only [Act.put, List.setIfInBounds_toArray, List.set_cons_zero, List.set_cons_succ]
      refine wpAnyT_take 5 (v := ?_) (by kernel_rfl) rfl (by kernel_rfl) (by decide) rfl (by kernel_rfl) (by kernel_rfl) (fun _ _ _ h => h) (Or.inl ⟨by rfl, ?_⟩) (by assumption) ?_
      rotate_left
      · (intro wq hSq; (try dsimp only at hSq); go_simp; try with_reducible rfl)
      try simp only [Act.put, List.setIfInBounds_toArray, List.set_cons_zero, List.set_cons_succ]
      refine wpAnyT_take 6 (v := ?_) (by kernel_rfl) rfl (by kernel_rfl) (by decide) rfl (by kernel_rfl) (by kernel_rfl) (fun _ _ _ h => h) (Or.inl ⟨by rfl, ?_⟩) (by assumption) ?_
      rotate_left
      · (intro wq hSq; (try dsimp only at hSq); go_simp; try with_reducible rfl)
      try simp only [Act.put, List.setIfInBounds_toArray, List.set_cons_zero, List.set_cons_succ]
      refine wpAnyT_take 7 (v := ?_) (by kernel_rfl) rfl (by kernel_rfl) (by decide) rfl (by kernel_rfl) (by kernel_rfl) (fun _ _ _ h => h) (Or.inl ⟨by rfl, ?_⟩) (by assumption) ?_
      rotate_left
      · (intro wq hSq; (try dsimp only at hSq); go_simp; try with_reducible rfl)
      try simp only [Act.put, List.setIfInBounds_toArray, List.set_cons_zero, List.set_cons_succ]
      refine wpAnyT_step 2 (by kernel_rfl) rfl (fun K hK => ?_)
      go_simp
      refine hK.out _ _ ⟨p0, (World.cell?_alloc_lt wo _ ⟨w.heap.size + 1, 2, none⟩ u1).trans s4, (World.cell?_alloc_lt wo _ ⟨ab, ao + k, none⟩ u4).trans s2⟩ (fun hHeld2 => ?_)
      clear hK K hHeld
      try simp only [Act.put, List.setIfInBounds_toArray, List.set_cons_zero, List.set_cons_succ]
      refine wpAnyT_step 8 (by kernel_rfl) rfl (fun K hK => ?_)
      refine step_append_reads (by rfl) (.tmp 45) (.tmp 50) 23 (by rfl) wo.heap.size 22 i0 (.int .u32 0) 4 Try.underlying23 hi0 hiz hiz1 hizb rfl (.slice (some ⟨wo.heap.size, 0, none⟩) 0 0) 0 [] (by rfl) ((owns_empty wo _).drew) wo.heap.size (.slice axb n axc) (x.map u32V) (by rfl) ((HXR.out.alloc (Nat.le_refl _) _).drew) (one_u32 x) (by rw [List.length_map, HX32.out]; unfold maxLen; omega) (by rw [List.length_map, HX32.out]; omega) (by simp) ?_
      intro v4 w4 hown4 hg4
      have hb4 : Below wo.heap.size wo w4 := (((Below.refl _ wo).alloc (Nat.le_refl _) _).drew).grown hg4 (by simp) (fun k hk => by simp [Value.ownBlock] at hk; omega)
      have p6 : w4.cell? ⟨w1.heap.size, 2, none⟩ = some (.slice oa k oc) := (hb4.cell (p := ⟨w1.heap.size, 2, none⟩) hsb).trans s6
      have p4 : w4.cell? ⟨w.heap.size + 1, 2, none⟩ = some (.slice (some ⟨ab, ao, none⟩) xl ac) := (hb4.cell (p := ⟨w.heap.size + 1, 2, none⟩) u1).trans s4
      have p2 : w4.cell? ⟨ab, ao + k, none⟩ = some (.slice axb n axc) := (hb4.cell (p := ⟨ab, ao + k, none⟩) u4).trans s2
      have hz4 := hb4.size
      have HU : Hid (w4.owns W3.heap.size 22 1 v4 x.length (x.map u32V)) := by
        have h4 := hown4
        rw [List.nil_append, Nat.zero_add, List.length_map] at h4
        exact h4.mono (by omega)
      obtain ⟨va4, vc4, rfl, -, -, -⟩ := HU.out.at_
      have p7 : (w4.alloc (.cells #[.slice va4 x.length vc4] 23)).cell? ⟨w1.heap.size, 2, none⟩ = some (.slice oa k oc) := (World.cell?_alloc_lt w4 _ ⟨w1.heap.size, 2, none⟩ (show w1.heap.size < w4.heap.size by omega)).trans p6
      have HO5 := Lib.hid (hO.out.below hb4)
      have HR5 := Lib.hid (HO2.out.below hb4)
      have HG5 := Lib.hid ((hb4.block _ hsb).trans HO1.out)
      clear hown4 hg4
      refine hK.out _ _ ⟨p6, p4, p2⟩ (fun hHeld3 => ?_)
      clear hK K hHeld2
      try simp only [Act.put, List.setIfInBounds_toArray, List.set_cons_zero, List.set_cons_succ]
      refine wpAnyT_step 9 (by kernel_rfl) rfl (fun K hK => ?_)
      go_simp
      refine hK.out _ _ ⟨p7, (World.cell?_alloc_lt w4 _ ⟨w.heap.size + 1, 2, none⟩ (show w.heap.size + 1 < w4.heap.size by omega)).trans p4, (World.cell?_alloc_lt w4 _ ⟨ab, ao + k, none⟩ (show ab < w4.heap.size by omega)).trans p2⟩ (fun hHeld4 => ?_)
      clear hK K hHeld3
      try simp only [Act.put, List.setIfInBounds_toArray, List.set_cons_zero, List.set_cons_succ]
      refine wpAnyT_step 10 (by kernel_rfl) rfl (fun K hK => ?_)
      refine step_pushRow (by rfl) (.tmp 44) (.tmp 52) 26 (by rfl) W3.heap.size 23 22 (by decide) i1' (.slice none 0 0) 24 Try.underlying26 hi1 hi1z hi1z1 hi1b rfl (.slice oa k oc) _ (by rfl) HR5.out _ x HU.out w4.heap.size rfl (by rfl) (by rfl) (by rw [hol]; unfold maxLen; omega) (by rw [hol]; omega) (by omega) ?_
      intro v6 w6 hr6 hz6 hBB6 hKK6
      obtain ⟨va6, vc6, rfl⟩ := hr6.open_
      rw [hl6] at hr6 ⊢
      obtain ⟨h16, hO6⟩ := HO5.out.push (by omega) (by omega) hr6 hBB6
      obtain ⟨-, -, e26, -, -, f26⟩ := elem_cells (h16 _ HG5.out)
      have hb6 := hBB6 W3.heap.size w4 (Below.refl _ _) (Nat.le_refl _)
      have o4 : w6.cell? ⟨w.heap.size + 1, 2, none⟩ = some (.slice (some ⟨ab, ao, none⟩) xl ac) := (hb6.cell (p := ⟨w.heap.size + 1, 2, none⟩) (show w.heap.size + 1 < _ by omega)).trans p4
      have o2 : w6.cell? ⟨ab, ao + k, none⟩ = some (.slice axb n axc) := (hb6.cell (p := ⟨ab, ao + k, none⟩) (show ab < _ by omega)).trans p2
      have HO6 := Lib.hid hO6
      clear hr6 hBB6 hKK6 hO6 h16 hb6
      refine hK.out _ _ ⟨e26, o4, o2⟩ (fun hHeld5 => ?_)
      clear hK K hHeld4
      try simp only [Act.put, List.setIfInBounds_toArray, List.set_cons_zero, List.set_cons_succ]
      refine wpAnyT_take 11 (v := ?_) (by kernel_rfl) rfl (by kernel_rfl) (by decide) rfl (by kernel_rfl) (by kernel_rfl) (fun _ _ _ h => h) (Or.inl ⟨by rfl, ?_⟩) (by assumption) ?_
      rotate_left
      · (intro wq hSq; (try dsimp only at hSq); go_simp; try with_reducible rfl)
      try simp only [Act.put, List.setIfInBounds_toArray, List.set_cons_zero, List.set_cons_succ]
      refine wpAnyT_last (by kernel_rfl) (by kernel_rfl) rfl (fun K hK => ?_)
      go_simp
      refine hK.out _ _ ?_
      clear hK K hHeld5
      go_wp2
      go_roundw
      case rel =>
        refine ⟨k + 1, by omega, by go_num, ?_⟩
        show OutE _ _ _ _ _ _ _
        have ht : xs.take (k + 1) = xs.take k ++ [x] := by rw [List.take_add_one, HX.out]; rfl
        rw [ht]
        exact HO6.out
      case measure => simp [intOf]; omega
    · obtain rfl : k = L := by omega
      obtain ⟨oa, oc, o1, o2⟩ := hO.out.open_
      rw [hol] at o1
      obtain ⟨e0', e1', e2', -, -, -⟩ := elem_cells o1
      have he6 := (hO.out.block (b := w.heap.size + 1 + 1) (by omega) (by omega)).trans HRC.out
      obtain ⟨k0, k1, k2, f0, f1, f2⟩ := elem_cells he6
      have hlz := lt_of_heap he6
      have HO1 := Lib.hid o1
      have HE6 := Lib.hid he6
      clear o1 o2 he6
      go_wp2
      obtain ⟨W6, hW6⟩ : ∃ W6, W6 = ((wo.setCell ⟨w.heap.size + 1 + 1, 0, none⟩ (.int .i64 (k : Int))).setCell ⟨w.heap.size + 1 + 1, 1, none⟩ (.bool false)).setCell ⟨w.heap.size + 1 + 1, 2, none⟩ (.slice oa k oc) := ⟨_, rfl⟩
      obtain ⟨h6, hr6, hB6⟩ := hO.out.store HO1.out (by omega) (by omega) HE6.out hW6
      obtain ⟨j0, j1, j2, -, -, -⟩ := elem_cells h6
      rw [← hW6]
      refine bodyPost_ret (v := .tuple #[.agg #[.int .i64 (k : Int), .bool false, .slice oa k oc], .int .i64 0]) ?_ rfl (EltPost.ok_ (by rw [HMR2.out]; exact hr6.mono (by have := hO.out.size; omega)) hB6)
      simp [results, Try.results30, go_sem, j0, j1, j2]
end Go.Proofs.Ytkjlfjnncdkmlaa.G

/- Walks: the reference's restriction of an element. -/
namespace Go.Proofs.Ytkjlfjnncdkmlaa.G
set_option linter.all false
open Go.RowKit Go.Shelf Go.BigFrame
set_option maxRecDepth 100000 in
set_option maxHeartbeats 40000000 in
theorem rrestr_t (N pr pw wt er : Int) (cv : Value) (chain : List Nat) (sp : Nat) (la : Int) (sa : Bool) (av : Value) (xs : List (List Nat)) (level : Int) (w : World) (hr : w.reads w.heap.size cv (chain.map u32V)) (ha : w.rows u32V w.heap.size av xs) :
    Calls Try.prog 30 #[.agg #[.int .i64 N, .int .u32 pr, .int .i64 pw, cv, .int .u32 (sp : Int), .int .i64 wt, .int .u32 er], .agg #[.int .i64 la, .bool sa, av], .int .i64 level, .bool true] w (EltPost (checkB N chain sp la sa xs && resB2 la sa level true) level true (resRows la.toNat level.toNat true xs) w) := by
  obtain ⟨r, hrr⟩ : ∃ r, r = (checkB N chain sp la sa xs && resB2 la sa level true) := ⟨_, rfl⟩
  rw [← hrr]
  obtain ⟨mr, hmr⟩ : ∃ mr, mr = resRows la.toNat level.toNat true xs := ⟨_, rfl⟩
  rw [← hmr]
  unfold resB2 at hrr
  obtain ⟨a, cap, rfl, hcap, hmx, -⟩ := reads_u32 hr
  obtain ⟨aa, ac, rfl, hac, ham, has⟩ := ha.shape
  obtain ⟨W0, hW0⟩ : ∃ W0, W0 = ((w.alloc (.cells #[.int .i64 N, .int .u32 pr, .int .i64 pw, .slice a chain.length cap, .int .u32 (sp : Int), .int .i64 wt, .int .u32 er] 25)).alloc (.cells #[.int .i64 la, .bool sa, .slice aa xs.length ac] 28)).alloc (.cells #[.int .i64 0, .bool false, .slice none 0 0] 28) := ⟨_, rfl⟩
  have hB0 : Below w.heap.size w W0 := by rw [hW0]; exact (((Below.refl _ w).alloc (Nat.le_refl _) _).alloc (by simp) _).alloc (by first | (simp; done) | (simp; omega)) _
  have g0 : W0.heap[w.heap.size]? = some (.cells #[.int .i64 N, .int .u32 pr, .int .i64 pw, .slice a chain.length cap, .int .u32 (sp : Int), .int .i64 wt, .int .u32 er] 25) := by rw [hW0, Below.heap_alloc _ _ _ (by first | (simp; done) | (simp; omega)), Below.heap_alloc _ _ _ (by simp)]; exact alloc_last _ _ rfl
  have e0 : W0.heap[w.heap.size + 1]? = some (.cells #[.int .i64 la, .bool sa, .slice aa xs.length ac] 28) := by rw [hW0, Below.heap_alloc _ _ _ (by simp)]; exact alloc_last _ _ (by simp)
  have e2 : W0.heap[w.heap.size + 1 + 1]? = some (.cells #[.int .i64 0, .bool false, .slice none 0 0] 28) := by rw [hW0]; exact alloc_last _ _ (by simp)
  have hz0 := lt_of_heap e2
  have HR0 := Lib.hid ((hr.below hB0).mono hB0.size)
  have HA0 := Lib.hid ((ha.below hB0).mono hB0.size)
  have HT := Lib.hid (rcheck_any N pr pw wt er _ chain sp la sa _ xs W0 HR0.out HA0.out)
  obtain ⟨ck, hck⟩ : ∃ ck, ck = checkB N chain sp la sa xs := ⟨_, rfl⟩
  rw [← hck] at HT hrr
  unfold ErrPost at HT
  obtain ⟨c0, c1, c2, c3, c4, c5, c6⟩ := par_cells g0
  obtain ⟨k0, k1, k2, -, -, -⟩ := elem_cells e0
  have HE0 := Lib.hid e0
  have HE2 := Lib.hid e2
  have HW0 := Lib.hid hW0
  have HRR := Lib.hid hrr
  have HMR := Lib.hid hmr
  have HAS := Lib.hid has
  have HCK := Lib.hid hck
  clear hr ha g0 e0 e2 hW0 hrr hmr has hck
  cases ck
  · obtain rfl : r = false := by rw [HRR.out]; rfl
    go_enter Try.func30, Try.ntmps30
    go_upto_region 1 with (fail)
    rw [← HW0.out]
    go_wp2_with fail
    refine HT.out.mono ?_
    rintro e w1 ⟨rfl, hb1⟩
    have he1 := (hb1.block _ hz0).trans HE2.out
    obtain ⟨q0, q1, q2, f0, f1, f2⟩ := elem_cells he1
    have hBw := hB0.trans (hb1.mono hB0.size)
    clear he1
    go_wp2
    refine bodyPost_ret (v := .tuple #[.agg #[.int .i64 0, .bool false, .slice none 0 0], .int .i64 2]) ?_ rfl (EltPost.no_ ?_)
    · simp [results, Try.results30, go_sem, q0, q1, q2]
    · exact ((hBw.setCell (by simp; omega) _).setCell (by simp; omega) _).setCell (by simp; omega) _
  have hrr2 : r = (decide (1 ≤ level) && decide (level ≤ la) && (!true || sa)) := by rw [HRR.out]; rfl
  obtain ⟨n, lv, rfl, rfl, i1, i2, i3, i4, i5, i6, i7⟩ := checkB_elt HCK.out.symm
  have HEK := Lib.hid i7
  have HML := Lib.hid (modl_length chain sp lv sa i4)
  have HRR2 := Lib.hid hrr2
  clear i6 i7 hrr2 HRR HCK
  go_enter Try.func30, Try.ntmps30
  go_upto_region 1 with (fail)
  rw [← HW0.out]
  go_wp2_with fail
  refine HT.out.mono ?_
  rintro e w1 ⟨rfl, hb1⟩
  have hs1 := hb1.size
  have he1 := (hb1.block (w.heap.size + 1) (by omega)).trans HE0.out
  have hf1 := (hb1.block _ hz0).trans HE2.out
  clear c0 c1 c2 c3 c4 c5 c6 k0 k1 k2
  obtain ⟨k0, k1, k2, -, -, -⟩ := elem_cells he1
  obtain ⟨q0, q1, q2, f0, f1, f2⟩ := elem_cells hf1
  have hBw := hB0.trans (hb1.mono hB0.size)
  have l2 : w.heap.size + 1 + 1 < w1.heap.size := by omega
  by_cases h1 : 1 ≤ level
  case neg =>
    obtain rfl : r = false := by rw [HRR2.out]; simp [h1]
    have t1 : level < 1 := by omega
    clear he1 hf1 h1
    go_wp2
    refine bodyPost_ret (v := .tuple #[.agg #[.int .i64 0, .bool false, .slice none 0 0], .int .i64 2]) ?_ rfl (EltPost.no_ ?_)
    · simp [results, Try.results30, go_sem, q0, q1, q2]
    · exact ((hBw.setCell (by simp; omega) _).setCell (by simp; omega) _).setCell (by simp; omega) _
  by_cases h2 : level ≤ (lv : Int)
  case neg =>
    obtain rfl : r = false := by rw [HRR2.out]; simp [h2]
    have t1 : (lv : Int) < level := by omega
    clear he1 hf1 h2
    go_wp2
    refine bodyPost_ret (v := .tuple #[.agg #[.int .i64 0, .bool false, .slice none 0 0], .int .i64 2]) ?_ rfl (EltPost.no_ ?_)
    · simp [results, Try.results30, go_sem, q0, q1, q2]
    · exact ((hBw.setCell (by simp; omega) _).setCell (by simp; omega) _).setCell (by simp; omega) _
  cases sa with
  | false =>
    obtain rfl : r = false := by rw [HRR2.out]; simp
    have t1 : ¬ level < 1 := by omega
    have t2 : ¬ (lv : Int) < level := by omega
    clear he1 hf1 h1 h2
    go_wp2
    refine bodyPost_ret (v := .tuple #[.agg #[.int .i64 0, .bool false, .slice none 0 0], .int .i64 2]) ?_ rfl (EltPost.no_ ?_)
    · simp [results, Try.results30, go_sem, q0, q1, q2]
    · exact ((hBw.setCell (by simp; omega) _).setCell (by simp; omega) _).setCell (by simp; omega) _
  | true =>
  obtain rfl : r = true := by rw [HRR2.out]; simp [h1, h2]
  obtain ⟨L, rfl⟩ : ∃ L : Nat, level = (L : Int) := ⟨level.toNat, by omega⟩
  have hLl : L ≤ lv := by omega
  have t9 : ¬ lv < L := by omega
  have HMR2 : Hid (mr = resRows lv L true xs) := by show _ = _; rw [HMR.out, Int.toNat_natCast, Int.toNat_natCast]
  obtain ⟨xl, hxl⟩ : ∃ m, m = xs.length := ⟨_, rfl⟩
  have hxlL : lv ≤ xl := by
    have := HEK.out.1
    rw [hxl, this, HML.out]; omega
  rw [← hxl] at k2 hac he1
  have HXL := Lib.hid hxl
  obtain ⟨W3, hW3⟩ : ∃ W3, W3 = w1.alloc (.cells #[.int .i64 (L : Int), .bool true, .slice none 0 0] 28) := ⟨_, rfl⟩
  have hb3 : Below w1.heap.size w1 W3 := by rw [hW3]; exact (Below.refl _ _).alloc (Nat.le_refl _) _
  have g3 : W3.heap[w1.heap.size]? = some (.cells #[.int .i64 (L : Int), .bool true, .slice none 0 0] 28) := by rw [hW3]; exact alloc_last _ _ rfl
  have hz3 := lt_of_heap g3
  have hBw3 := hBw.trans (hb3.mono hBw.size)
  have HAC := Lib.hid ((hb3.block (w.heap.size + 1) (by omega)).trans he1)
  have HRC := Lib.hid ((hb3.block (w.heap.size + 1 + 1) (by omega)).trans hf1)
  have hO0 : Hid (OutE w W3 w1.heap.size (L : Int) true (xs.take 0) W3) := OutE.start (w := w) g3 hBw3
  have HA4 : Hid (∀ (j : Nat) (r : List Nat), xs[j]? = some r → ∃ b off b2 c2, aa = some ⟨b, off, none⟩ ∧ b < w.heap.size ∧ W3.cell? ⟨b, off + j, none⟩ = some (.slice b2 r.length c2) ∧ W3.reads w.heap.size (.slice b2 r.length c2) (r.map u32V)) := by
    intro j x hj
    obtain ⟨b, off, b2, c2, q1, q2, q3, q4⟩ := HAS.out j x hj
    exact ⟨b, off, b2, c2, q1, q2, (hBw3.cell (p := ⟨b, off + j, none⟩) q2).trans q3, q4.below hBw3⟩
  have HW3 := Lib.hid hW3
  obtain ⟨i0, hi0, hiz, hiz1, hizb⟩ := info_parts info32
  obtain ⟨i1', hi1, hi1z, hi1z1, hi1b⟩ := info_parts infoU32r
  clear g3 hW3 he1 hf1 hxl hb3 hb1 hB0 hBw3
  go_upto_region 4 with (fail)
  rw [← HW3.out]
  clear k0 k1 k2 q0 q1 q2 f0 f1 f2
  go_wp2_with fail
  go_loopw [11] (fun ii wr => ∃ k : Nat, k ≤ L ∧ ii = .int .i64 (k : Int) ∧ Hid (OutE w W3 w1.heap.size (L : Int) true (xs.take k) wr)) (fun ii _ => L - (intOf ii).toNat)
  case atStart => exact ⟨0, Nat.zero_le _, rfl, hO0⟩
  case round =>
    obtain ⟨wo, rfl⟩ : ∃ x, x = wr := ⟨_, rfl⟩
    clear hO0
    obtain ⟨k, hk, rfl, hO⟩ := hrel
    obtain ⟨hsr, hsb⟩ := hO.out.size
    have hol : (xs.take k).length = k := by rw [List.length_take, ← HXL.out]; omega
    by_cases hlt : k < L
    · obtain ⟨x, hx⟩ : ∃ x, xs[k]? = some x := ⟨xs[k]'(by rw [← HXL.out]; omega), List.getElem?_eq_getElem _⟩
      obtain ⟨ab, ao, axb, axc, rfl, hab, hcx, hxr⟩ := HA4.out k x hx
      have hx32 := (HEK.out.2 k x hx).1
      have HX32 := Lib.hid hx32
      have s2 : wo.cell? ⟨ab, ao + k, none⟩ = some (.slice axb n axc) := by rw [hO.out.cell (by omega) (by omega), hcx, hx32]
      obtain ⟨-, -, s4, -, -, -⟩ := elem_cells ((hO.out.block (b := w.heap.size + 1) (by omega) (by omega)).trans HAC.out)
      obtain ⟨oa, oc, o1, o2⟩ := hO.out.open_
      rw [hol] at o1 o2
      obtain ⟨-, -, s6, -, -, -⟩ := elem_cells o1
      have hxr2 : wo.reads wo.heap.size (.slice axb n axc) (x.map u32V) := by
        have := (hO.out.reads (B := w.heap.size) (by omega) (by omega) hxr).mono (show w.heap.size ≤ wo.heap.size by omega)
        rw [hx32] at this; exact this
      have HX := Lib.hid hx
      have HO1 := Lib.hid o1
      have HO2 := Lib.hid o2
      have HXR := Lib.hid hxr2
      have hl6 : (xs.take k ++ [x]).length = k + 1 := by rw [List.length_append, hol]; rfl
      have n2 : ¬ ab = w1.heap.size := by omega
      have n4 : ¬ w.heap.size + 1 = w1.heap.size := by omega
      have p0 : (wo.alloc (.cells #[] 22)).cell? ⟨w1.heap.size, 2, none⟩ = some (.slice oa k oc) := (World.cell?_alloc_lt wo _ ⟨w1.heap.size, 2, none⟩ hsb).trans s6
      have u1 : w.heap.size + 1 < wo.heap.size := by omega
      have u4 : ab < wo.heap.size := by omega
      have z0 : (0 : Int) ≤ (k : Int) := by omega
      have z1 : (k : Int) < (xl : Int) := by omega
      clear hx hcx hxr o1 o2 hxr2 hx32
      go_wp2_with fail
      refine wp_region_line (fun w' => w'.cell? ⟨w1.heap.size, 2, none⟩ = some (.slice oa k oc) ∧ w'.cell? ⟨w.heap.size + 1, 2, none⟩ = some (.slice (some ⟨ab, ao, none⟩) xl ac) ∧ w'.cell? ⟨ab, ao + k, none⟩ = some (.slice axb n axc)) 12 (by kernel_rfl) ⟨s6, s4, s2⟩ (fun hHeld => ?_)
      refine wpAnyT_take 0 (v := ?_) (by kernel_rfl) rfl (by kernel_rfl) (by decide) rfl (by kernel_rfl) (by kernel_rfl) (fun _ _ _ h => h) (Or.inl ⟨by rfl, ?_⟩) (by assumption) ?_
      rotate_left
      · (intro wq hSq; (try dsimp only at hSq); go_simp; try with_reducible rfl)
      try simp only [Act.put, List.setIfInBounds_toArray, List.set_cons_zero, List.set_cons_succ]
      refine wpAnyT_take 1 (v := ?_) (by kernel_rfl) rfl (by kernel_rfl) (by decide) rfl (by kernel_rfl) (by kernel_rfl) (fun _ _ _ h => h) (Or.inl ⟨by rfl, ?_⟩) (by assumption) ?_
      rotate_left
      · (intro wq hSq; (try dsimp only at hSq); go_simp; try with_reducible rfl)
      try simp only [Act.put, List.setIfInBounds_toArray, List.set_cons_zero, List.set_cons_succ]
      refine wpAnyT_take 3 (v := ?_) (by kernel_rfl) rfl (by kernel_rfl) (by decide) rfl (by kernel_rfl) (by kernel_rfl) (fun _ _ _ h => h) (Or.inl ⟨by rfl, ?_⟩) (by assumption) ?_
      rotate_left
      · (intro wq hSq; (try dsimp only at hSq); go_simp; try with_reducible rfl)
      try simp only [Act.put, List.setIfInBounds_toArray, List.set_cons_zero, List.set_cons_succ]
      refine wpAnyT_take 4 (v := ?_) (by kernel_rfl) rfl (by kernel_rfl) (by decide) rfl (by kernel_rfl) (by kernel_rfl) (fun _ _ _ h => h) (Or.inl ⟨by rfl, ?_⟩) (by assumption) ?_
      rotate_left
      · (intro wq hSq; (try dsimp only at hSq); go_simp; try with_reducible rfl)
      try simp only [Act.put, List.setIfInBounds_toArray, List.set_cons_zero, List.set_cons_succ]
      refine wpAnyT_take 5 (v := ?_) (by kernel_rfl) rfl (by kernel_rfl) (by decide) rfl (by kernel_rfl) (by kernel_rfl) (fun _ _ _ h => h) (Or.inl ⟨by rfl, ?_⟩) (by assumption) ?_
      rotate_left
      · (intro wq hSq; (try dsimp only at hSq); go_simp; try with_reducible rfl)
      try simp only [Act.put, List.setIfInBounds_toArray, List.set_cons_zero, List.set_cons_succ]
      refine wpAnyT_take 6 (v := ?_) (by kernel_rfl) rfl (by kernel_rfl) (by decide) rfl (by kernel_rfl) (by kernel_rfl) (fun _ _ _ h => h) (Or.inl ⟨by rfl, ?_⟩) (by assumption) ?_
      rotate_left
      · (intro wq hSq; (try dsimp only at hSq); go_simp; try with_reducible rfl)
      try simp only [Act.put, List.setIfInBounds_toArray, List.set_cons_zero, List.set_cons_succ]
      refine wpAnyT_take 7 (v := ?_) (by kernel_rfl) rfl (by kernel_rfl) (by decide) rfl (by kernel_rfl) (by kernel_rfl) (fun _ _ _ h => h) (Or.inl ⟨by rfl, ?_⟩) (by assumption) ?_
      rotate_left
      · (intro wq hSq; (try dsimp only at hSq); go_simp; try with_reducible rfl)
      try simp only [Act.put, List.setIfInBounds_toArray, List.set_cons_zero, List.set_cons_succ]
      refine wpAnyT_step 2 (by kernel_rfl) rfl (fun K hK => ?_)
      go_simp
      refine hK.out _ _ ⟨p0, (World.cell?_alloc_lt wo _ ⟨w.heap.size + 1, 2, none⟩ u1).trans s4, (World.cell?_alloc_lt wo _ ⟨ab, ao + k, none⟩ u4).trans s2⟩ (fun hHeld2 => ?_)
      clear hK K hHeld
      try simp only [Act.put, List.setIfInBounds_toArray, List.set_cons_zero, List.set_cons_succ]
      refine wpAnyT_step 8 (by kernel_rfl) rfl (fun K hK => ?_)
      refine step_append_reads (by rfl) (.tmp 45) (.tmp 50) 23 (by rfl) wo.heap.size 22 i0 (.int .u32 0) 4 Try.underlying23 hi0 hiz hiz1 hizb rfl (.slice (some ⟨wo.heap.size, 0, none⟩) 0 0) 0 [] (by rfl) ((owns_empty wo _).drew) wo.heap.size (.slice axb n axc) (x.map u32V) (by rfl) ((HXR.out.alloc (Nat.le_refl _) _).drew) (one_u32 x) (by rw [List.length_map, HX32.out]; unfold maxLen; omega) (by rw [List.length_map, HX32.out]; omega) (by simp) ?_
      intro v4 w4 hown4 hg4
      have hb4 : Below wo.heap.size wo w4 := (((Below.refl _ wo).alloc (Nat.le_refl _) _).drew).grown hg4 (by simp) (fun k hk => by simp [Value.ownBlock] at hk; omega)
      have p6 : w4.cell? ⟨w1.heap.size, 2, none⟩ = some (.slice oa k oc) := (hb4.cell (p := ⟨w1.heap.size, 2, none⟩) hsb).trans s6
      have p4 : w4.cell? ⟨w.heap.size + 1, 2, none⟩ = some (.slice (some ⟨ab, ao, none⟩) xl ac) := (hb4.cell (p := ⟨w.heap.size + 1, 2, none⟩) u1).trans s4
      have p2 : w4.cell? ⟨ab, ao + k, none⟩ = some (.slice axb n axc) := (hb4.cell (p := ⟨ab, ao + k, none⟩) u4).trans s2
      have hz4 := hb4.size
      have HU : Hid (w4.owns W3.heap.size 22 1 v4 x.length (x.map u32V)) := by
        have h4 := hown4
        rw [List.nil_append, Nat.zero_add, List.length_map] at h4
        exact h4.mono (by omega)
      obtain ⟨va4, vc4, rfl, -, -, -⟩ := HU.out.at_
      have p7 : (w4.alloc (.cells #[.slice va4 x.length vc4] 23)).cell? ⟨w1.heap.size, 2, none⟩ = some (.slice oa k oc) := (World.cell?_alloc_lt w4 _ ⟨w1.heap.size, 2, none⟩ (show w1.heap.size < w4.heap.size by omega)).trans p6
      have HO5 := Lib.hid (hO.out.below hb4)
      have HR5 := Lib.hid (HO2.out.below hb4)
      have HG5 := Lib.hid ((hb4.block _ hsb).trans HO1.out)
      clear hown4 hg4
      refine hK.out _ _ ⟨p6, p4, p2⟩ (fun hHeld3 => ?_)
      clear hK K hHeld2
      try simp only [Act.put, List.setIfInBounds_toArray, List.set_cons_zero, List.set_cons_succ]
      refine wpAnyT_step 9 (by kernel_rfl) rfl (fun K hK => ?_)
      go_simp
      refine hK.out _ _ ⟨p7, (World.cell?_alloc_lt w4 _ ⟨w.heap.size + 1, 2, none⟩ (show w.heap.size + 1 < w4.heap.size by omega)).trans p4, (World.cell?_alloc_lt w4 _ ⟨ab, ao + k, none⟩ (show ab < w4.heap.size by omega)).trans p2⟩ (fun hHeld4 => ?_)
      clear hK K hHeld3
      try simp only [Act.put, List.setIfInBounds_toArray, List.set_cons_zero, List.set_cons_succ]
      refine wpAnyT_step 10 (by kernel_rfl) rfl (fun K hK => ?_)
      refine step_pushRow (by rfl) (.tmp 44) (.tmp 52) 26 (by rfl) W3.heap.size 23 22 (by decide) i1' (.slice none 0 0) 24 Try.underlying26 hi1 hi1z hi1z1 hi1b rfl (.slice oa k oc) _ (by rfl) HR5.out _ x HU.out w4.heap.size rfl (by rfl) (by rfl) (by rw [hol]; unfold maxLen; omega) (by rw [hol]; omega) (by omega) ?_
      intro v6 w6 hr6 hz6 hBB6 hKK6
      obtain ⟨va6, vc6, rfl⟩ := hr6.open_
      rw [hl6] at hr6 ⊢
      obtain ⟨h16, hO6⟩ := HO5.out.push (by omega) (by omega) hr6 hBB6
      obtain ⟨-, -, e26, -, -, f26⟩ := elem_cells (h16 _ HG5.out)
      have hb6 := hBB6 W3.heap.size w4 (Below.refl _ _) (Nat.le_refl _)
      have o4 : w6.cell? ⟨w.heap.size + 1, 2, none⟩ = some (.slice (some ⟨ab, ao, none⟩) xl ac) := (hb6.cell (p := ⟨w.heap.size + 1, 2, none⟩) (show w.heap.size + 1 < _ by omega)).trans p4
      have o2 : w6.cell? ⟨ab, ao + k, none⟩ = some (.slice axb n axc) := (hb6.cell (p := ⟨ab, ao + k, none⟩) (show ab < _ by omega)).trans p2
      have HO6 := Lib.hid hO6
      clear hr6 hBB6 hKK6 hO6 h16 hb6
      refine hK.out _ _ ⟨e26, o4, o2⟩ (fun hHeld5 => ?_)
      clear hK K hHeld4
      try simp only [Act.put, List.setIfInBounds_toArray, List.set_cons_zero, List.set_cons_succ]
      refine wpAnyT_take 11 (v := ?_) (by kernel_rfl) rfl (by kernel_rfl) (by decide) rfl (by kernel_rfl) (by kernel_rfl) (fun _ _ _ h => h) (Or.inl ⟨by rfl, ?_⟩) (by assumption) ?_
      rotate_left
      · (intro wq hSq; (try dsimp only at hSq); go_simp; try with_reducible rfl)
      try simp only [Act.put, List.setIfInBounds_toArray, List.set_cons_zero, List.set_cons_succ]
      refine wpAnyT_last (by kernel_rfl) (by kernel_rfl) rfl (fun K hK => ?_)
      go_simp
      refine hK.out _ _ ?_
      clear hK K hHeld5
      go_wp2
      go_roundw
      case rel =>
        refine ⟨k + 1, by omega, by go_num, ?_⟩
        show OutE _ _ _ _ _ _ _
        have ht : xs.take (k + 1) = xs.take k ++ [x] := by rw [List.take_add_one, HX.out]; rfl
        rw [ht]
        exact HO6.out
      case measure => simp [intOf]; omega
    · obtain rfl : k = L := by omega
      have hxl2 : lv < xl := by rw [HXL.out, HEK.out.1, HML.out]; simp
      obtain ⟨x, hx⟩ : ∃ x, xs[lv]? = some x := ⟨xs[lv]'(by rw [← HXL.out]; omega), List.getElem?_eq_getElem _⟩
      obtain ⟨ab, ao, axb, axc, rfl, hab, hcx, hxr⟩ := HA4.out lv x hx
      have hx32 := (HEK.out.2 lv x hx).1
      have HX32 := Lib.hid hx32
      have s2 : wo.cell? ⟨ab, ao + lv, none⟩ = some (.slice axb n axc) := by rw [hO.out.cell (by omega) (by omega), hcx, hx32]
      obtain ⟨s5, -, s4, -, -, -⟩ := elem_cells ((hO.out.block (b := w.heap.size + 1) (by omega) (by omega)).trans HAC.out)
      obtain ⟨oa, oc, o1, o2⟩ := hO.out.open_
      rw [hol] at o1 o2
      obtain ⟨-, -, s6, -, -, -⟩ := elem_cells o1
      have hxr2 : wo.reads wo.heap.size (.slice axb n axc) (x.map u32V) := by
        have := (hO.out.reads (B := w.heap.size) (by omega) (by omega) hxr).mono (show w.heap.size ≤ wo.heap.size by omega)
        rw [hx32] at this; exact this
      have HX := Lib.hid hx
      have HO1 := Lib.hid o1
      have HO2 := Lib.hid o2
      have HXR := Lib.hid hxr2
      have hl6 : (xs.take k ++ [x]).length = k + 1 := by rw [List.length_append, hol]; rfl
      have n2 : ¬ ab = w1.heap.size := by omega
      have n4 : ¬ w.heap.size + 1 = w1.heap.size := by omega
      have p0 : (wo.alloc (.cells #[] 22)).cell? ⟨w1.heap.size, 2, none⟩ = some (.slice oa k oc) := (World.cell?_alloc_lt wo _ ⟨w1.heap.size, 2, none⟩ hsb).trans s6
      have u1 : w.heap.size + 1 < wo.heap.size := by omega
      have u4 : ab < wo.heap.size := by omega
      have z0 : (0 : Int) ≤ (lv : Int) := by omega
      have z1 : (lv : Int) < (xl : Int) := by omega
      clear hx hcx hxr o1 o2 hxr2 hx32
      go_upto_region 9 with (fail)
      refine wp_region_line (fun w' => w'.cell? ⟨w1.heap.size, 2, none⟩ = some (.slice oa k oc) ∧ w'.cell? ⟨w.heap.size + 1, 2, none⟩ = some (.slice (some ⟨ab, ao, none⟩) xl ac) ∧ w'.cell? ⟨ab, ao + lv, none⟩ = some (.slice axb n axc) ∧ w'.cell? ⟨w.heap.size + 1, 0, none⟩ = some (.int .i64 (lv : Int))) 13 (by kernel_rfl) ⟨s6, s4, s2, s5⟩ (fun hHeld => ?_)
      refine wpAnyT_take 0 (v := ?_) (by kernel_rfl) rfl (by kernel_rfl) (by decide) rfl (by kernel_rfl) (by kernel_rfl) (fun _ _ _ h => h) (Or.inl ⟨by rfl, ?_⟩) (by assumption) ?_
      rotate_left
      · (intro wq hSq; (try dsimp only at hSq); go_simp; try with_reducible rfl)
      try simp only [Act.put, List.setIfInBounds_toArray, List.set_cons_zero, List.set_cons_succ]
      refine wpAnyT_take 1 (v := ?_) (by kernel_rfl) rfl (by kernel_rfl) (by decide) rfl (by kernel_rfl) (by kernel_rfl) (fun _ _ _ h => h) (Or.inl ⟨by rfl, ?_⟩) (by assumption) ?_
      rotate_left
      · (intro wq hSq; (try dsimp only at hSq); go_simp; try with_reducible rfl)
      try simp only [Act.put, List.setIfInBounds_toArray, List.set_cons_zero, List.set_cons_succ]
      refine wpAnyT_take 3 (v := ?_) (by kernel_rfl) rfl (by kernel_rfl) (by decide) rfl (by kernel_rfl) (by kernel_rfl) (fun _ _ _ h => h) (Or.inl ⟨by rfl, ?_⟩) (by assumption) ?_
      rotate_left
      · (intro wq hSq; (try dsimp only at hSq); go_simp; try with_reducible rfl)
      try simp only [Act.put, List.setIfInBounds_toArray, List.set_cons_zero, List.set_cons_succ]
      refine wpAnyT_take 4 (v := ?_) (by kernel_rfl) rfl (by kernel_rfl) (by decide) rfl (by kernel_rfl) (by kernel_rfl) (fun _ _ _ h => h) (Or.inl ⟨by rfl, ?_⟩) (by assumption) ?_
      rotate_left
      · (intro wq hSq; (try dsimp only at hSq); go_simp; try with_reducible rfl)
      try simp only [Act.put, List.setIfInBounds_toArray, List.set_cons_zero, List.set_cons_succ]
      refine wpAnyT_take 5 (v := ?_) (by kernel_rfl) rfl (by kernel_rfl) (by decide) rfl (by kernel_rfl) (by kernel_rfl) (fun _ _ _ h => h) (Or.inl ⟨by rfl, ?_⟩) (by assumption) ?_
      rotate_left
      · (intro wq hSq; (try dsimp only at hSq); go_simp; try with_reducible rfl)
      try simp only [Act.put, List.setIfInBounds_toArray, List.set_cons_zero, List.set_cons_succ]
      refine wpAnyT_take 6 (v := ?_) (by kernel_rfl) rfl (by kernel_rfl) (by decide) rfl (by kernel_rfl) (by kernel_rfl) (fun _ _ _ h => h) (Or.inl ⟨by rfl, ?_⟩) (by assumption) ?_
      rotate_left
      · (intro wq hSq; (try dsimp only at hSq); go_simp; try with_reducible rfl)
      try simp only [Act.put, List.setIfInBounds_toArray, List.set_cons_zero, List.set_cons_succ]
      refine wpAnyT_take 7 (v := ?_) (by kernel_rfl) rfl (by kernel_rfl) (by decide) rfl (by kernel_rfl) (by kernel_rfl) (fun _ _ _ h => h) (Or.inl ⟨by rfl, ?_⟩) (by assumption) ?_
      rotate_left
      · (intro wq hSq; (try dsimp only at hSq); go_simp; try with_reducible rfl)
      try simp only [Act.put, List.setIfInBounds_toArray, List.set_cons_zero, List.set_cons_succ]
      refine wpAnyT_take 8 (v := ?_) (by kernel_rfl) rfl (by kernel_rfl) (by decide) rfl (by kernel_rfl) (by kernel_rfl) (fun _ _ _ h => h) (Or.inl ⟨by rfl, ?_⟩) (by assumption) ?_
      rotate_left
      · (intro wq hSq; (try dsimp only at hSq); go_simp; try with_reducible rfl)
      try simp only [Act.put, List.setIfInBounds_toArray, List.set_cons_zero, List.set_cons_succ]
      refine wpAnyT_step 2 (by kernel_rfl) rfl (fun K hK => ?_)
      go_simp
      refine hK.out _ _ ⟨p0, (World.cell?_alloc_lt wo _ ⟨w.heap.size + 1, 2, none⟩ u1).trans s4, (World.cell?_alloc_lt wo _ ⟨ab, ao + lv, none⟩ u4).trans s2, (World.cell?_alloc_lt wo _ ⟨w.heap.size + 1, 0, none⟩ u1).trans s5⟩ (fun hHeld2 => ?_)
      clear hK K hHeld
      try simp only [Act.put, List.setIfInBounds_toArray, List.set_cons_zero, List.set_cons_succ]
      refine wpAnyT_step 9 (by kernel_rfl) rfl (fun K hK => ?_)
      refine step_append_reads (by rfl) (.tmp 58) (.tmp 64) 23 (by rfl) wo.heap.size 22 i0 (.int .u32 0) 4 Try.underlying23 hi0 hiz hiz1 hizb rfl (.slice (some ⟨wo.heap.size, 0, none⟩) 0 0) 0 [] (by rfl) ((owns_empty wo _).drew) wo.heap.size (.slice axb n axc) (x.map u32V) (by rfl) ((HXR.out.alloc (Nat.le_refl _) _).drew) (one_u32 x) (by rw [List.length_map, HX32.out]; unfold maxLen; omega) (by rw [List.length_map, HX32.out]; omega) (by simp) ?_
      intro v4 w4 hown4 hg4
      have hb4 : Below wo.heap.size wo w4 := (((Below.refl _ wo).alloc (Nat.le_refl _) _).drew).grown hg4 (by simp) (fun k hk => by simp [Value.ownBlock] at hk; omega)
      have p6 : w4.cell? ⟨w1.heap.size, 2, none⟩ = some (.slice oa k oc) := (hb4.cell (p := ⟨w1.heap.size, 2, none⟩) hsb).trans s6
      have p4 : w4.cell? ⟨w.heap.size + 1, 2, none⟩ = some (.slice (some ⟨ab, ao, none⟩) xl ac) := (hb4.cell (p := ⟨w.heap.size + 1, 2, none⟩) u1).trans s4
      have p2 : w4.cell? ⟨ab, ao + lv, none⟩ = some (.slice axb n axc) := (hb4.cell (p := ⟨ab, ao + lv, none⟩) u4).trans s2
      have p5 : w4.cell? ⟨w.heap.size + 1, 0, none⟩ = some (.int .i64 (lv : Int)) := (hb4.cell (p := ⟨w.heap.size + 1, 0, none⟩) u1).trans s5
      have hz4 := hb4.size
      have HU : Hid (w4.owns W3.heap.size 22 1 v4 x.length (x.map u32V)) := by
        have h4 := hown4
        rw [List.nil_append, Nat.zero_add, List.length_map] at h4
        exact h4.mono (by omega)
      obtain ⟨va4, vc4, rfl, -, -, -⟩ := HU.out.at_
      have p7 : (w4.alloc (.cells #[.slice va4 x.length vc4] 23)).cell? ⟨w1.heap.size, 2, none⟩ = some (.slice oa k oc) := (World.cell?_alloc_lt w4 _ ⟨w1.heap.size, 2, none⟩ (show w1.heap.size < w4.heap.size by omega)).trans p6
      have HO5 := Lib.hid (hO.out.below hb4)
      have HR5 := Lib.hid (HO2.out.below hb4)
      have HG5 := Lib.hid ((hb4.block _ hsb).trans HO1.out)
      clear hown4 hg4
      refine hK.out _ _ ⟨p6, p4, p2, p5⟩ (fun hHeld3 => ?_)
      clear hK K hHeld2
      try simp only [Act.put, List.setIfInBounds_toArray, List.set_cons_zero, List.set_cons_succ]
      refine wpAnyT_step 10 (by kernel_rfl) rfl (fun K hK => ?_)
      go_simp
      refine hK.out _ _ ⟨p7, (World.cell?_alloc_lt w4 _ ⟨w.heap.size + 1, 2, none⟩ (show w.heap.size + 1 < w4.heap.size by omega)).trans p4, (World.cell?_alloc_lt w4 _ ⟨ab, ao + lv, none⟩ (show ab < w4.heap.size by omega)).trans p2, (World.cell?_alloc_lt w4 _ ⟨w.heap.size + 1, 0, none⟩ (show w.heap.size + 1 < w4.heap.size by omega)).trans p5⟩ (fun hHeld4 => ?_)
      clear hK K hHeld3
      try simp only [Act.put, List.setIfInBounds_toArray, List.set_cons_zero, List.set_cons_succ]
      refine wpAnyT_step 11 (by kernel_rfl) rfl (fun K hK => ?_)
      refine step_pushRow (by rfl) (.tmp 57) (.tmp 66) 26 (by rfl) W3.heap.size 23 22 (by decide) i1' (.slice none 0 0) 24 Try.underlying26 hi1 hi1z hi1z1 hi1b rfl (.slice oa k oc) _ (by rfl) HR5.out _ x HU.out w4.heap.size rfl (by rfl) (by rfl) (by rw [hol]; unfold maxLen; omega) (by rw [hol]; omega) (by omega) ?_
      intro v6 w6 hr6 hz6 hBB6 hKK6
      obtain ⟨va6, vc6, rfl⟩ := hr6.open_
      rw [hl6] at hr6 ⊢
      obtain ⟨h16, hO6⟩ := HO5.out.push (by omega) (by omega) hr6 hBB6
      obtain ⟨-, -, e26, -, -, f26⟩ := elem_cells (h16 _ HG5.out)
      have hb6 := hBB6 W3.heap.size w4 (Below.refl _ _) (Nat.le_refl _)
      have o4 : w6.cell? ⟨w.heap.size + 1, 2, none⟩ = some (.slice (some ⟨ab, ao, none⟩) xl ac) := (hb6.cell (p := ⟨w.heap.size + 1, 2, none⟩) (show w.heap.size + 1 < _ by omega)).trans p4
      have o2 : w6.cell? ⟨ab, ao + lv, none⟩ = some (.slice axb n axc) := (hb6.cell (p := ⟨ab, ao + lv, none⟩) (show ab < _ by omega)).trans p2
      have o5 : w6.cell? ⟨w.heap.size + 1, 0, none⟩ = some (.int .i64 (lv : Int)) := (hb6.cell (p := ⟨w.heap.size + 1, 0, none⟩) (show w.heap.size + 1 < _ by omega)).trans p5
      have HO6 := Lib.hid hO6
      clear hr6 hBB6 hKK6 hO6 h16 hb6
      refine hK.out _ _ ⟨e26, o4, o2, o5⟩ (fun hHeld5 => ?_)
      clear hK K hHeld4
      try simp only [Act.put, List.setIfInBounds_toArray, List.set_cons_zero, List.set_cons_succ]
      refine wpAnyT_take 12 (v := ?_) (by kernel_rfl) rfl (by kernel_rfl) (by decide) rfl (by kernel_rfl) (by kernel_rfl) (fun _ _ _ h => h) (Or.inl ⟨by rfl, ?_⟩) (by assumption) ?_
      rotate_left
      · (intro wq hSq; (try dsimp only at hSq); go_simp; try with_reducible rfl)
      try simp only [Act.put, List.setIfInBounds_toArray, List.set_cons_zero, List.set_cons_succ]
      refine wpAnyT_last (by kernel_rfl) (by kernel_rfl) rfl (fun K hK => ?_)
      go_simp
      refine hK.out _ _ ?_
      clear hK K hHeld5
      generalize w6.setCell ⟨w1.heap.size, 2, none⟩ (.slice va6 (k + 1) vc6) = w7 at HO6 ⊢
      clear hO HO1 HO2 HO5 HR5 HG5 p0 p2 p4 p5 p6 p7 o2 o4 o5 s2 s4 s5 s6 e26 f26
      obtain ⟨oa, oc, o1, o2⟩ := HO6.out.open_
      rw [hl6] at o1
      obtain ⟨e0', e1', e2', -, -, -⟩ := elem_cells o1
      have he6 := (HO6.out.block (b := w.heap.size + 1 + 1) (by omega) (by omega)).trans HRC.out
      obtain ⟨k0, k1, k2, f0, f1, f2⟩ := elem_cells he6
      have hlz := lt_of_heap he6
      have HO1 := Lib.hid o1
      have HE6 := Lib.hid he6
      clear o1 o2 he6
      go_wp2
      obtain ⟨W6, hW6⟩ : ∃ W6, W6 = ((w7.setCell ⟨w.heap.size + 1 + 1, 0, none⟩ (.int .i64 (k : Int))).setCell ⟨w.heap.size + 1 + 1, 1, none⟩ (.bool true)).setCell ⟨w.heap.size + 1 + 1, 2, none⟩ (.slice oa (k + 1) oc) := ⟨_, rfl⟩
      obtain ⟨h6, hr6, hB6⟩ := HO6.out.store HO1.out (by omega) (by omega) HE6.out hW6
      obtain ⟨j0, j1, j2, -, -, -⟩ := elem_cells h6
      rw [← hW6]
      refine bodyPost_ret (v := .tuple #[.agg #[.int .i64 (k : Int), .bool true, .slice oa (k + 1) oc], .int .i64 0]) ?_ rfl (EltPost.ok_ (by rw [HMR2.out, show resRows lv k true xs = xs.take k ++ [x] by unfold resRows; rw [if_pos rfl, List.getD_eq_getElem?_getD, HX.out]; rfl]; exact hr6.mono (by have := HO6.out.size; omega)) hB6)
      simp [results, Try.results30, go_sem, j0, j1, j2]
theorem rrestr_any (N pr pw wt er : Int) (cv : Value) (chain : List Nat) (sp : Nat) (la : Int) (sa : Bool) (av : Value) (xs : List (List Nat)) (level : Int) (special : Bool) (w : World) (hr : w.reads w.heap.size cv (chain.map u32V)) (ha : w.rows u32V w.heap.size av xs) :
    Calls Try.prog 30 #[.agg #[.int .i64 N, .int .u32 pr, .int .i64 pw, cv, .int .u32 (sp : Int), .int .i64 wt, .int .u32 er], .agg #[.int .i64 la, .bool sa, av], .int .i64 level, .bool special] w (EltPost (checkB N chain sp la sa xs && resB2 la sa level special) level special (resRows la.toNat level.toNat special xs) w) := by
  cases special with
  | true => exact rrestr_t N pr pw wt er cv chain sp la sa av xs level w hr ha
  | false =>
    have h := restrict_any N pr pw wt er cv chain sp la sa av xs level w hr ha
    have e1 : resB N chain sp la sa xs level = (checkB N chain sp la sa xs && resB2 la sa level false) := by unfold resB resB2; simp [Bool.and_assoc]
    have e2 : xs.take level.toNat = resRows la.toNat level.toNat false xs := by unfold resRows; simp
    rw [e1, e2] at h
    exact h
end Go.Proofs.Ytkjlfjnncdkmlaa.G

/- Walks: the reference's automorphisms of elements. -/
namespace Go.Proofs.Ytkjlfjnncdkmlaa.G
set_option linter.all false
open Go.RowKit Go.Shelf Go.BigFrame
theorem owns_blk {w : World} {base g n : Nat} {e : TypeId} {xs : List Value} (h : w.heap[g]? = some (.cells xs.toArray e)) (hb : base ≤ g) (hl : xs.length = n) (hn : n ≤ maxLen) : w.owns base e 1 (.slice (some ⟨g, 0, none⟩) n n) n xs :=
  ⟨by omega, .inr ⟨g, n, xs.toArray, (0, 0), rfl, hb, h, okFz_zero _, Nat.le_refl _, hn, by simp [hl], by simp [← hl]⟩⟩
set_option maxRecDepth 100000 in
set_option maxHeartbeats 40000000 in
theorem rauto_any (N pr pw wt er : Int) (cv : Value) (chain : List Nat) (sp : Nat) (la : Int) (sa : Bool) (av : Value) (xs : List (List Nat)) (k : Int) (hk0 : -9223372036854775808 ≤ k ∧ k ≤ 9223372036854775807) (w : World) (hr : w.reads w.heap.size cv (chain.map u32V)) (ha : w.rows u32V w.heap.size av xs) :
    Calls Try.prog 29 #[.agg #[.int .i64 N, .int .u32 pr, .int .i64 pw, cv, .int .u32 (sp : Int), .int .i64 wt, .int .u32 er], .agg #[.int .i64 la, .bool sa, av], .int .i64 k] w (EltPost (checkB N chain sp la sa xs && autB N k) la sa (zipRows (autR N.toNat k.toNat) (modl chain sp la.toNat sa) xs xs (modl chain sp la.toNat sa).length) w) := by
  obtain ⟨r, hrr⟩ : ∃ r, r = (checkB N chain sp la sa xs && autB N k) := ⟨_, rfl⟩
  rw [← hrr]
  obtain ⟨mr, hmr⟩ : ∃ mr, mr = zipRows (autR N.toNat k.toNat) (modl chain sp la.toNat sa) xs xs (modl chain sp la.toNat sa).length := ⟨_, rfl⟩
  rw [← hmr]
  obtain ⟨a, cap, rfl, hcap, hmx, -⟩ := reads_u32 hr
  obtain ⟨aa, ac, rfl, hac, ham, has⟩ := ha.shape
  obtain ⟨W0, hW0⟩ : ∃ W0, W0 = ((w.alloc (.cells #[.int .i64 N, .int .u32 pr, .int .i64 pw, .slice a chain.length cap, .int .u32 (sp : Int), .int .i64 wt, .int .u32 er] 25)).alloc (.cells #[.int .i64 la, .bool sa, .slice aa xs.length ac] 28)).alloc (.cells #[.int .i64 0, .bool false, .slice none 0 0] 28) := ⟨_, rfl⟩
  have hB0 : Below w.heap.size w W0 := by rw [hW0]; exact (((Below.refl _ w).alloc (Nat.le_refl _) _).alloc (by simp) _).alloc (by first | (simp; done) | (simp; omega)) _
  have g0 : W0.heap[w.heap.size]? = some (.cells #[.int .i64 N, .int .u32 pr, .int .i64 pw, .slice a chain.length cap, .int .u32 (sp : Int), .int .i64 wt, .int .u32 er] 25) := by rw [hW0, Below.heap_alloc _ _ _ (by first | (simp; done) | (simp; omega)), Below.heap_alloc _ _ _ (by simp)]; exact alloc_last _ _ rfl
  have e0 : W0.heap[w.heap.size + 1]? = some (.cells #[.int .i64 la, .bool sa, .slice aa xs.length ac] 28) := by rw [hW0, Below.heap_alloc _ _ _ (by simp)]; exact alloc_last _ _ (by simp)
  have e2 : W0.heap[w.heap.size + 1 + 1]? = some (.cells #[.int .i64 0, .bool false, .slice none 0 0] 28) := by rw [hW0]; exact alloc_last _ _ (by simp)
  have hz0 := lt_of_heap e2
  have HR0 := Lib.hid ((hr.below hB0).mono hB0.size)
  have HA0 := Lib.hid ((ha.below hB0).mono hB0.size)
  have HT := Lib.hid (rcheck_any N pr pw wt er _ chain sp la sa _ xs W0 HR0.out HA0.out)
  unfold ErrPost errI at HT
  obtain ⟨ck, hck⟩ : ∃ c, c = checkB N chain sp la sa xs := ⟨_, rfl⟩
  rw [← hck] at HT hrr
  obtain ⟨c0, c1, c2, c3, c4, c5, c6⟩ := par_cells g0
  obtain ⟨k0, k1, k2, -, -, -⟩ := elem_cells e0
  have HG0 := Lib.hid g0
  have HE0 := Lib.hid e0
  have HE2 := Lib.hid e2
  have HW0 := Lib.hid hW0
  have HRR := Lib.hid hrr
  have HMR := Lib.hid hmr
  have HCK := Lib.hid hck
  have HAS := Lib.hid has
  have HNO : Hid (∀ w' : World, Below w.heap.size w w' → EltPost false la sa mr w (.returned (.tuple #[.agg #[.int .i64 0, .bool false, .slice none 0 0], .int .i64 2])) w') := fun w' h => EltPost.no_ h
  clear hr ha g0 e0 e2 hW0 hrr hmr hck has
  cases ck with
  | false =>
    obtain rfl : r = false := by rw [HRR.out]; try rfl
    go_enter Try.func29, Try.ntmps29
    go_upto_region 1 with (fail)
    rw [← HW0.out]
    go_wp2_with fail
    (with_reducible refine HT.out.mono ?_)
    rintro e w1 ⟨rfl, hb1⟩
    have he1 := (hb1.block _ hz0).trans HE2.out
    have hg1 := (hb1.block w.heap.size (by omega)).trans HG0.out
    have hh1 := (hb1.block (w.heap.size + 1) (by omega)).trans HE0.out
    clear c0 c1 c2 c3 c4 c5 c6 k0 k1 k2
    obtain ⟨c0, c1, c2, c3, c4, c5, c6⟩ := par_cells hg1
    obtain ⟨k0, k1, k2, -, -, -⟩ := elem_cells hh1
    obtain ⟨q0, q1, q2, f0, f1, f2⟩ := elem_cells he1
    have hBw := hB0.trans (hb1.mono hB0.size)
    clear he1 hg1 hh1
    go_wp2
    refine bodyPost_ret (v := .tuple #[.agg #[.int .i64 0, .bool false, .slice none 0 0], .int .i64 2]) ?_ rfl (HNO.out _ ?_)
    · simp [results, Try.results29, go_sem, q0, q1, q2]
    · exact ((hBw.setCell (by simp; omega) _).setCell (by simp; omega) _).setCell (by simp; omega) _
  | true =>
  obtain ⟨n, lv, rfl, rfl, i1, i2, i3, i4, i5, i6, i7⟩ := checkB_elt HCK.out.symm
  obtain ⟨n2, hn2⟩ : ∃ n2, n2 = 2 * n := ⟨_, rfl⟩
  obtain ⟨n3, hn3⟩ : ∃ n3, n3 = n2 - 1 := ⟨_, rfl⟩
  have t3 : 2 * (n : Int) = (n2 : Int) := by omega
  have t4 : n2 ≤ 64 := by omega
  have t5 : (n2 : Int) - 1 = (n3 : Int) := by omega
  have t6 : n3 ≤ 63 := by omega
  by_cases hk : autB (n : Int) k = true
  case neg =>
    have hkf : autB (n : Int) k = false := by simpa using hk
    have t1 : k < 1 ∨ (¬ k < 1 ∧ (n3 : Int) < k) ∨ (¬ k < 1 ∧ ¬ (n3 : Int) < k ∧ k % 2 = 0) := by
      unfold autB at hkf
      simp only [Bool.and_eq_false_iff, decide_eq_false_iff_not] at hkf
      omega
    obtain rfl : r = false := by rw [HRR.out]; rw [hkf]; rfl
    rcases t1 with t1 | ⟨t1, t2⟩ | ⟨t1, t2, t7⟩
    · clear hk hkf hn2 hn3
      go_enter Try.func29, Try.ntmps29
      go_upto_region 1 with (fail)
      rw [← HW0.out]
      go_wp2_with fail
      (with_reducible refine HT.out.mono ?_)
      rintro e w1 ⟨rfl, hb1⟩
      have he1 := (hb1.block _ hz0).trans HE2.out
      have hg1 := (hb1.block w.heap.size (by omega)).trans HG0.out
      have hh1 := (hb1.block (w.heap.size + 1) (by omega)).trans HE0.out
      clear c0 c1 c2 c3 c4 c5 c6 k0 k1 k2
      obtain ⟨c0, c1, c2, c3, c4, c5, c6⟩ := par_cells hg1
      obtain ⟨k0, k1, k2, -, -, -⟩ := elem_cells hh1
      obtain ⟨q0, q1, q2, f0, f1, f2⟩ := elem_cells he1
      have hBw := hB0.trans (hb1.mono hB0.size)
      clear he1 hg1 hh1
      go_wp2
      refine bodyPost_ret (v := .tuple #[.agg #[.int .i64 0, .bool false, .slice none 0 0], .int .i64 2]) ?_ rfl (HNO.out _ ?_)
      · simp [results, Try.results29, go_sem, q0, q1, q2]
      · exact ((hBw.setCell (by simp; omega) _).setCell (by simp; omega) _).setCell (by simp; omega) _
    · clear hk hkf hn2 hn3
      go_enter Try.func29, Try.ntmps29
      go_upto_region 1 with (fail)
      rw [← HW0.out]
      go_wp2_with fail
      (with_reducible refine HT.out.mono ?_)
      rintro e w1 ⟨rfl, hb1⟩
      have he1 := (hb1.block _ hz0).trans HE2.out
      have hg1 := (hb1.block w.heap.size (by omega)).trans HG0.out
      have hh1 := (hb1.block (w.heap.size + 1) (by omega)).trans HE0.out
      clear c0 c1 c2 c3 c4 c5 c6 k0 k1 k2
      obtain ⟨c0, c1, c2, c3, c4, c5, c6⟩ := par_cells hg1
      obtain ⟨k0, k1, k2, -, -, -⟩ := elem_cells hh1
      obtain ⟨q0, q1, q2, f0, f1, f2⟩ := elem_cells he1
      have hBw := hB0.trans (hb1.mono hB0.size)
      clear he1 hg1 hh1
      go_wp2
      refine bodyPost_ret (v := .tuple #[.agg #[.int .i64 0, .bool false, .slice none 0 0], .int .i64 2]) ?_ rfl (HNO.out _ ?_)
      · simp [results, Try.results29, go_sem, q0, q1, q2]
      · exact ((hBw.setCell (by simp; omega) _).setCell (by simp; omega) _).setCell (by simp; omega) _
    · have t8 : k.tmod 2 = 0 := by rw [Int.tmod_eq_emod_of_nonneg (by omega)]; exact t7
      clear hk hkf hn2 hn3
      go_enter Try.func29, Try.ntmps29
      go_upto_region 1 with (fail)
      rw [← HW0.out]
      go_wp2_with fail
      (with_reducible refine HT.out.mono ?_)
      rintro e w1 ⟨rfl, hb1⟩
      have he1 := (hb1.block _ hz0).trans HE2.out
      have hg1 := (hb1.block w.heap.size (by omega)).trans HG0.out
      have hh1 := (hb1.block (w.heap.size + 1) (by omega)).trans HE0.out
      clear c0 c1 c2 c3 c4 c5 c6 k0 k1 k2
      obtain ⟨c0, c1, c2, c3, c4, c5, c6⟩ := par_cells hg1
      obtain ⟨k0, k1, k2, -, -, -⟩ := elem_cells hh1
      obtain ⟨q0, q1, q2, f0, f1, f2⟩ := elem_cells he1
      have hBw := hB0.trans (hb1.mono hB0.size)
      clear he1 hg1 hh1
      go_wp2
      refine bodyPost_ret (v := .tuple #[.agg #[.int .i64 0, .bool false, .slice none 0 0], .int .i64 2]) ?_ rfl (HNO.out _ ?_)
      · simp [results, Try.results29, go_sem, q0, q1, q2]
      · exact ((hBw.setCell (by simp; omega) _).setCell (by simp; omega) _).setCell (by simp; omega) _
  obtain ⟨kk, rfl, hk1, hk2, hk3⟩ : ∃ kk : Nat, k = (kk : Int) ∧ kk % 2 = 1 ∧ kk < 2 * n ∧ 1 ≤ kk := by
    unfold autB at hk
    simp only [Bool.and_eq_true, decide_eq_true_eq] at hk
    exact ⟨k.toNat, by omega, by omega, by omega, by omega⟩
  obtain rfl : r = true := by rw [HRR.out, hk]; rfl
  have hsz : SizeN n := checkB_size HCK.out.symm
  have HMR2 : Hid (mr = zipRows (autR n kk) (modl chain sp lv sa) xs xs (modl chain sp lv sa).length) := by show _ = _; rw [HMR.out]; simp only [Int.toNat_natCast]
  have HMO := Lib.hid (fun W hb => rmoduli_any (n : Int) pr pw wt er _ chain sp lv sa W ((HR0.out.below hb).mono (Below.size hb)) i3 i4 i5)
  unfold ModPost at HMO
  have hml := modl_length chain sp lv sa i4
  obtain ⟨ml, hmlE⟩ : ∃ ml, ml = modl chain sp lv sa := ⟨_, rfl⟩
  rw [← hmlE] at HMO HMR2 i6 i7 hml
  have hRb : ml.length ≤ 25 := by rw [hml]; split <;> omega
  obtain ⟨R, hR⟩ : ∃ R, R = ml.length := ⟨_, rfl⟩
  rw [i7.1, ← hR] at HW0 HE0 HT k2 hac ⊢
  rw [← hR] at hRb HMR2
  obtain ⟨m, hm⟩ : ∃ m, m = chain.length := ⟨_, rfl⟩
  rw [← hm] at hcap HG0 HW0 HMO HT c3 ⊢
  have HRN := Lib.hid hR
  have HAE := Lib.hid i7
  have HMOK := Lib.hid i6
  have HSZ := Lib.hid hsz
  have HK1 := Lib.hid hk1
  have t7 : ¬ (kk : Int) < 1 := by omega
  have t8 : ¬ (n3 : Int) < (kk : Int) := by omega
  have t9 : (kk : Int) % 2 = 1 := by omega
  have t10 : (kk : Int).tmod 2 = 1 := by rw [Int.tmod_eq_emod_of_nonneg (by omega)]; exact t9
  have hkb : kk ≤ 64 := by omega
  have HN2 := Lib.hid hn2
  have hn20 : n2 ≠ 0 := by omega
  clear hk hn2 hn3 i6 i7 hml hmlE hR hm hsz hk1 HMR HRR HCK hk0
  go_enter Try.func29, Try.ntmps29
  go_upto_region 1 with (fail)
  rw [← HW0.out]
  go_wp2_with fail
  (with_reducible refine HT.out.mono ?_)
  rintro e w1 ⟨rfl, hb1⟩
  have hs1 := hb1.size
  have hg1 := (hb1.block w.heap.size (by omega)).trans HG0.out
  have he1 := (hb1.block (w.heap.size + 1) (by omega)).trans HE0.out
  have hf1 := (hb1.block _ hz0).trans HE2.out
  clear c0 c1 c2 c3 c4 c5 c6 k0 k1 k2
  obtain ⟨c0, c1, c2, c3, c4, c5, c6⟩ := par_cells hg1
  obtain ⟨k0, k1, k2, -, -, -⟩ := elem_cells he1
  have hBw := hB0.trans (hb1.mono hB0.size)
  have l2 : w.heap.size + 1 + 1 < w1.heap.size := by omega
  obtain ⟨W3, hW3⟩ : ∃ W3, W3 = w1.alloc (.cells #[.int .i64 (lv : Int), .bool sa, .slice none 0 0] 28) := ⟨_, rfl⟩
  have hb3 : Below w1.heap.size w1 W3 := by rw [hW3]; exact (Below.refl _ _).alloc (Nat.le_refl _) _
  have g3 : W3.heap[w1.heap.size]? = some (.cells #[.int .i64 (lv : Int), .bool sa, .slice none 0 0] 28) := by rw [hW3]; exact alloc_last _ _ rfl
  have hz3 := lt_of_heap g3
  have hBw3 := hBw.trans (hb3.mono hBw.size)
  have HM3 := HMO.out W3 (below_via hb1 hb3)
  have hg3 := (hb3.block w.heap.size (by omega)).trans hg1
  have he3 := (hb3.block (w.heap.size + 1) (by omega)).trans he1
  have hf3 := (hb3.block (w.heap.size + 1 + 1) (by omega)).trans hf1
  have HW3 := Lib.hid hW3
  clear hW3 hg1 he1 hf1 HMO HT hs1
  go_upto_region 4 with (fail)
  rw [← HW3.out]
  clear c0 c1 c2 c3 c4 c5 c6 k0 k1 k2
  obtain ⟨c0, c1, c2, c3, c4, c5, c6⟩ := par_cells hg3
  obtain ⟨k0, k1, k2, -, -, -⟩ := elem_cells he3
  go_wp2_with fail
  (with_reducible refine HM3.mono ?_)
  rintro e W4 ⟨⟨v, rfl, hv⟩, hb4⟩
  have hs4 := hb4.size
  have hs3 := hb3.size
  have hBw4 := hBw3.trans (hb4.mono hBw3.size)
  have hg4 := (hb4.block _ hz3).trans g3
  have hb34 : w1.heap.size < W4.heap.size := by omega
  obtain ⟨va, vc, rfl, hvc, hvm, hvs⟩ := reads_u32 hv
  have HVS : Hid (∀ (j x : Nat), ml[j]? = some x → ∃ b off, va = some ⟨b, off, none⟩ ∧ b < W4.heap.size ∧ b ≠ w1.heap.size ∧ W4.cell? ⟨b, off + j, none⟩ = some (.int .u32 (x : Int))) := by
    intro j x hj
    obtain ⟨b, off, q1, q2, q3⟩ := hvs j x hj
    exact ⟨b, off, q1, q2, u32_not_elem hg4 q3, q3⟩
  have HA4 : Hid (∀ (j : Nat) (r : List Nat), xs[j]? = some r → ∃ b off b2 c2, aa = some ⟨b, off, none⟩ ∧ b < w.heap.size ∧ W4.cell? ⟨b, off + j, none⟩ = some (.slice b2 r.length c2) ∧ W4.reads w.heap.size (.slice b2 r.length c2) (r.map u32V)) := by
    intro j x hj
    obtain ⟨b, off, b2, c2, q1, q2, q3, q4⟩ := HAS.out j x hj
    exact ⟨b, off, b2, c2, q1, q2, (hBw4.cell (p := ⟨b, off + j, none⟩) q2).trans q3, q4.below hBw4⟩
  rw [← HRN.out] at hvc ⊢
  have hO0 : Hid (OutE w W4 w1.heap.size (lv : Int) sa (zipRows (autR n kk) ml xs xs 0) W4) := OutE.start (w := w) hg4 hBw4
  have HPC := Lib.hid ((hb4.block w.heap.size (by omega)).trans hg3)
  have HAC := Lib.hid ((hb4.block (w.heap.size + 1) (by omega)).trans he3)
  have HRC := Lib.hid ((hb4.block (w.heap.size + 1 + 1) (by omega)).trans hf3)
  obtain ⟨i1', hi1, hi1z, hi1z1, hi1b⟩ := info_parts infoU32r
  clear c0 c1 c2 c3 c4 c5 c6 k0 k1 k2 g3 hv hvs hg4 HM3 hBw4 hBw3 hBw hb3 hb4 hB0 hg3 he3 hf3 hb1
  go_wp2_with fail
  go_loopw [10] (fun ii wr => ∃ k : Nat, k ≤ R ∧ ii = .int .i64 (k : Int) ∧ Hid (OutE w W4 w1.heap.size (lv : Int) sa (zipRows (autR n kk) ml xs xs k) wr)) (fun ii _ => R - (intOf ii).toNat)
  case atStart => exact ⟨0, Nat.zero_le _, rfl, hO0⟩
  case round =>
    obtain ⟨wo, rfl⟩ : ∃ x, x = wr := ⟨_, rfl⟩
    clear hO0
    obtain ⟨k, hk, rfl, hO⟩ := hrel
    obtain ⟨hsr, hsb⟩ := hO.out.size
    by_cases hlt : k < R
    · obtain ⟨q, hq⟩ : ∃ x, ml[k]? = some x := ⟨ml[k]'(by rw [← HRN.out]; exact hlt), List.getElem?_eq_getElem _⟩
      obtain ⟨x, hx⟩ : ∃ x, xs[k]? = some x := ⟨xs[k]'(by rw [HAE.out.1, ← HRN.out]; exact hlt), List.getElem?_eq_getElem _⟩
      obtain ⟨vb, vo, rfl, hvb1, hvb2, hcq⟩ := HVS.out k q hq
      obtain ⟨ab, ao, axb, axc, rfl, hab, hcx, hxr⟩ := HA4.out k x hx
      obtain ⟨hxn, q', hq', hxq⟩ := HAE.out.2 k x hx
      obtain rfl : q = q' := by rw [hq] at hq'; injection hq'
      have hqr := HMOK.out q (List.mem_of_getElem? hq)
      have hq0 : 0 < q := by omega
      have HCQ2 : Hid (wo.cell? ⟨vb, vo + k, none⟩ = some (.int .u32 (q : Int))) := (hO.out.cell hvb1 hvb2).trans hcq
      have HCX2 : Hid (wo.cell? ⟨ab, ao + k, none⟩ = some (.slice axb n axc)) := by show _ = _; rw [hO.out.cell (by omega) (by omega), hcx, hxn]
      obtain ⟨ab', ac', hae1, hac1, ham1, hxs⟩ := reads_u32 hxr
      injection hae1 with hae1 _ hae2
      subst hae1 hae2
      rw [hxn] at hac1
      obtain ⟨c0, -, -, -, -, -, -⟩ := par_cells ((hO.out.block (b := w.heap.size) (by omega) (by omega)).trans HPC.out)
      obtain ⟨-, -, k2, -, -, -⟩ := elem_cells ((hO.out.block (b := w.heap.size + 1) (by omega) (by omega)).trans HAC.out)
      obtain ⟨f, hf⟩ : ∃ f : Nat → Nat → Nat, f = fun j t => resN q (autTo n kk (cf x) j t) := ⟨_, rfl⟩
      have HROW : Hid (nrow (f n) n = ((autR n kk q x x).map u32V).toArray) := by
        show _ = _
        rw [hf]
        unfold autR autRow mapZ nrow
        rw [List.map_map]
        rfl
      have h0 : zrow n = nrow (f 0) n := by
        rw [nrow_zero]
        refine nrow_congr fun t _ => ?_
        rw [hf]
        show 0 = resN q (autTo n kk (cf x) 0 t)
        exact (resN_nat q 0 hq0).symm
      have HSTEP : Hid (∀ (j v : Nat), j < n → ((v : Nat) : Int) = (resN q ((if j * kk % (2 * n) < n then 1 else -1) * cf x j) : Nat) → (nrow (f j) n).setIfInBounds (posA n kk j) (.int .u32 (v : Int)) = nrow (f (j + 1)) n) := fun j v hj hv => by
        rw [nrow_set]
        refine nrow_congr fun t ht => ?_
        rw [hf]
        exact (autTo_step HSZ.out HK1.out hq0 x hj v hv t ht).symm
      have hmk : ∀ W : World, (Instr.makeSlice 23 (.int .i64 (n : Int)) (.int .i64 (n : Int))).run Try.prog W = .ok (.slice (some ⟨W.heap.size, 0, none⟩) n n) (W.alloc (.cells (zrow n) 22)) := fun W => make_u32 n (by omega) W
      have HQ := Lib.hid hq
      have HX := Lib.hid hx
      have HXS := Lib.hid hxs
      have HXN := Lib.hid hxn
      have HXQ : Hid (∀ k v : Nat, x[k]? = some v → v < q) := fun k v h => hxq v (List.mem_of_getElem? h)
      have HC0 := Lib.hid c0
      have HK2 := Lib.hid k2
      have z0 : (0 : Int) ≤ (k : Int) := by omega
      have z1 : (k : Int) < (R : Int) := by omega
      have z2 : ¬ q = 0 := by omega
      have z3 : ((q : Int) == 0) = false := by rw [beq_eq_false_iff_ne]; omega
      have z5 : ((n2 : Int) == 0) = false := by rw [beq_eq_false_iff_ne]; omega
      have H00 := Lib.hid h0
      clear hq hx hcq hcx hxr hxs hxn hxq hq' hf h0 k2
      go_upto_region 9 with (fail)
      obtain ⟨wA, hwA⟩ : ∃ wA, wA = wo.alloc (.cells (zrow n) 22) := ⟨_, rfl⟩
      have hbA : Below wo.heap.size wo wA := by rw [hwA]; exact (Below.refl _ _).alloc (Nat.le_refl _) _
      have hgA : wA.heap[wo.heap.size]? = some (.cells (nrow (f 0) n) 22) := by rw [hwA, H00.out]; exact alloc_last _ _ rfl
      rw [← hwA]
      obtain ⟨g, hg⟩ : ∃ g, g = wo.heap.size := ⟨_, rfl⟩
      rw [← hg] at hgA hbA ⊢
      have hgg : wo.heap.size ≤ g := by omega
      have hgg2 : g ≤ wo.heap.size := by omega
      have HGG := Lib.hid hg
      have HBA := Lib.hid hbA
      have HGA := Lib.hid hgA
      clear hmk hwA hbA hgA hg
      go_wp2
      go_loopw [12] (fun jv ws => ∃ j : Nat, j ≤ n ∧ jv = .int .i64 (j : Int) ∧ Hid (ws.heap[g]? = some (.cells (nrow (f j) n) 22)) ∧ Hid (Below g wo ws)) (fun jv _ => n - (intOf jv).toNat)
      case atStart => exact ⟨0, Nat.zero_le _, rfl, HGA.out, HBA.out⟩
      case round =>
        obtain ⟨ws, rfl⟩ : ∃ x, x = wr := ⟨_, rfl⟩
        obtain ⟨j, hj, rfl, HG, HB⟩ := hrel
        have HCS := Lib.hid (bcell HB.out).1
        have c0s : ws.cell? ⟨w.heap.size, 0, none⟩ = some (.int .i64 (n : Int)) := (HCS.out _ _ (by omega)).trans HC0.out
        clear c0
        by_cases hltj : j < n
        · obtain ⟨v, hv⟩ : ∃ v, x[j]? = some v := ⟨x[j]'(by rw [HXN.out]; exact hltj), List.getElem?_eq_getElem _⟩
          obtain ⟨xb, xo, rfl, hxb, hxc⟩ := HXS.out j v hv
          have hvq := HXQ.out j v hv
          have hgx : cf x j = (v : Int) := by unfold cf; rw [List.getD_eq_getElem?_getD, hv]; rfl
          have s1 : ws.cell? ⟨xb, xo + j, none⟩ = some (.int .u32 (v : Int)) := ((HCS.out _ _ (by omega)).trans (hO.out.cell (by omega) (by omega))).trans hxc
          have s2 : ws.cell? ⟨vb, vo + k, none⟩ = some (.int .u32 (q : Int)) := (HCS.out _ _ (by omega)).trans HCQ2.out
          have s3 : ws.cell? ⟨ab, ao + k, none⟩ = some (.slice (some ⟨xb, xo, none⟩) n axc) := (HCS.out _ _ (by omega)).trans HCX2.out
          have s4 : ws.cell? ⟨w.heap.size + 1, 2, none⟩ = some (.slice (some ⟨ab, ao, none⟩) R ac) := (HCS.out _ _ (by omega)).trans HK2.out
          obtain ⟨m', hm⟩ : ∃ m, m = j * kk := ⟨_, rfl⟩
          obtain ⟨at0, hat⟩ : ∃ a, a = m' % n2 := ⟨_, rfl⟩
          have hmb : m' ≤ 4096 := by rw [hm]; exact Nat.mul_le_mul (show j ≤ 64 by omega) hkb
          have hat2 : at0 < n2 := by rw [hat]; exact Nat.mod_lt _ (by omega)
          have hatd : j * kk % (2 * n) = at0 := by rw [hat, hm, HN2.out]
          have e1 : (j : Int) * (kk : Int) = (m' : Int) := by rw [hm]; simp
          have e2 : (m' : Int) % (n2 : Int) = (at0 : Int) := by rw [hat]; simp
          have e3 : (m' : Int).tmod (n2 : Int) = (at0 : Int) := by rw [hat]; rfl
          have j1 : (j : Int) < (n : Int) := by omega
          have j2 : (0 : Int) ≤ (j : Int) := by omega
          by_cases hc : at0 < n
          · have hpos : posA n kk j = at0 := by unfold posA; rw [hatd, if_pos hc]
            have HS := Lib.hid (HSTEP.out j v hltj (by rw [hatd, if_pos hc, Int.one_mul, hgx, resN_nat q v hvq]))
            rw [hpos] at HS
            have d0 : ws.cell? ⟨g, at0, none⟩ = some (.int .u32 (f j at0 : Int)) := by rw [cell_of_row ws g at0 _ _ (0, 0) HG.out]; exact nrow_get _ _ _ hc
            have d1 : ws.frozen? ⟨g, at0, none⟩ = false := by simp [World.frozen?, HG.out]
            have HG2 : Hid ((ws.setCell ⟨g, at0, none⟩ (.int .u32 (v : Int))).heap[g]? = some (.cells (nrow (f (j + 1)) n) 22)) := by
              show _ = _
              rw [← HS.out]; simp [World.setCell, Array.getElem?_modify, HG.out]
            have HB2 := Lib.hid (HB.out.setCell (p := ⟨g, at0, none⟩) (Nat.le_refl g) (.int .u32 (v : Int)))
            have j4 : (at0 : Int) < (n : Int) := by omega
            have j5 : (0 : Int) ≤ (at0 : Int) := by omega
            clear hv hxc hgx hm hat hatd hpos HS
            go_upto_region 11 with (fail)
            generalize ws.setCell ⟨g, at0, none⟩ (.int .u32 (v : Int)) = wn at HG2 HB2 ⊢
            clear s1 s2 s3 s4 d0 d1 e1 e2 e3 c0s
            go_wp2_with fail
            go_roundw
            case rel => exact ⟨j + 1, by omega, by go_num, HG2.out, HB2.out⟩
            case measure => simp [intOf]; omega
          · obtain ⟨a1, ha1⟩ : ∃ a, a = at0 - n := ⟨_, rfl⟩
            have ha1n : a1 < n := by omega
            have hpos : posA n kk j = a1 := by unfold posA; rw [hatd, if_neg hc, ha1]
            obtain ⟨s, hs⟩ : ∃ s, s = q - v := ⟨_, rfl⟩
            obtain ⟨t, ht⟩ : ∃ t, t = s % q := ⟨_, rfl⟩
            have htq : t < q := by rw [ht]; exact Nat.mod_lt _ (by omega)
            have HS := Lib.hid (HSTEP.out j t hltj (by rw [hatd, if_neg hc, hgx, ht, hs, neg_res hq0 hvq]; simp))
            rw [hpos] at HS
            have e4 : (q : Int) - (v : Int) = (s : Int) := by omega
            have e5 : (s : Int) % (q : Int) = (t : Int) := by rw [ht]; simp
            have e6 : (s : Int).tmod (q : Int) = (t : Int) := by rw [ht]; rfl
            have e7 : (at0 : Int) - (n : Int) = (a1 : Int) := by omega
            have e8 : IntKind.i64.wrap (a1 : Int) = (a1 : Int) := IntWalk.i64_in _ (by omega)
            have e10 : IntKind.u32.wrap (s : Int) = (s : Int) := by rw [IntKind.wrap_u32]; omega
            have e11 : IntKind.u32.wrap (t : Int) = (t : Int) := by rw [IntKind.wrap_u32]; omega
            have j4 : (a1 : Int) < (n : Int) := by omega
            have j5 : (0 : Int) ≤ (a1 : Int) := by omega
            have j6 : ¬ (at0 : Int) < (n : Int) := by omega
            have d0 : ws.cell? ⟨g, a1, none⟩ = some (.int .u32 (f j a1 : Int)) := by rw [cell_of_row ws g a1 _ _ (0, 0) HG.out]; exact nrow_get _ _ _ ha1n
            have d1 : ws.frozen? ⟨g, a1, none⟩ = false := by simp [World.frozen?, HG.out]
            clear hv hxc hgx hm hat hatd hpos hs ht ha1
            go_upto_region 15 with (fail)
            with_reducible first | refine wp_region_quiet_tail_at 24 (by kernel_rfl) (by kernel_rfl) ?_ | refine wp_region_quiet_tail_lit 24 (by kernel_rfl) (by kernel_rfl) ?_
            simp only [List.take_succ_cons, List.take_zero, List.drop_succ_cons, List.drop_zero]
            repeat (go_big_quiet_step (fail))
            refine wpQuiet_nil ?_
            rintro _ ⟨nq, rfl⟩
            have d0' : (ws.drewN nq).cell? ⟨g, a1, none⟩ = some (.int .u32 (f j a1 : Int)) := d0
            have d1' : (ws.drewN nq).frozen? ⟨g, a1, none⟩ = false := d1
            go_upto_region 11 with (fail)
            have HG2 : Hid (((ws.setCell ⟨g, a1, none⟩ (.int .u32 (t : Int))).drewN nq).heap[g]? = some (.cells (nrow (f (j + 1)) n) 22)) := by
              show (ws.setCell ⟨g, a1, none⟩ (.int .u32 (t : Int))).heap[g]? = _
              rw [← HS.out]; simp [World.setCell, Array.getElem?_modify, HG.out]
            have HB2 := Lib.hid (below_drewN (HB.out.setCell (p := ⟨g, a1, none⟩) (Nat.le_refl g) (.int .u32 (t : Int))) nq)
            generalize (ws.setCell ⟨g, a1, none⟩ (.int .u32 (t : Int))).drewN nq = wn at HG2 HB2 ⊢
            clear s1 s2 s3 s4 d0 d1 d0' d1' e1 e2 e3 e4 e5 e6 e7 e8 e10 e11 c0s
            go_wp2_with fail
            go_roundw
            case rel => exact ⟨j + 1, by omega, by go_num, HG2.out, HB2.out⟩
            case measure => simp [intOf]; omega
        · obtain rfl : j = n := by omega
          have hbs : Below wo.heap.size wo ws := HB.out.mono hgg
          have hss := hbs.size
          have hO5 := hO.out.below hbs
          obtain ⟨oa, oc, o1, o2⟩ := hO5.open_
          have hol := zipRows_length (autR j kk) ml xs xs k
          rw [hol] at o1 o2
          obtain ⟨-, -, e2, -, -, fz2⟩ := elem_cells o1
          have hgr := HG.out
          rw [HROW.out] at hgr
          have har := (autR_ok j kk q hq0 x x).1
          have hu := owns_blk hgr (base := W4.heap.size) (n := j) (by omega) (by rw [List.length_map]; exact har) (by unfold maxLen; omega)
          have HU : Hid (ws.owns W4.heap.size 22 1 (.slice (some ⟨g, 0, none⟩) j j) (autR j kk q x x).length ((autR j kk q x x).map u32V)) := by
            show World.owns _ _ _ _ _ _ _
            rw [har]; exact hu
          have hl6 : (zipRows (autR j kk) ml xs xs k ++ [autR j kk q x x]).length = k + 1 := by rw [List.length_append, hol]; rfl
          have HO5 := Lib.hid hO5
          have HO1 := Lib.hid o1
          have HO2 := Lib.hid o2
          have hsb2 : w1.heap.size < ws.heap.size := by omega
          clear hO5 o1 o2 hu hgr har
          go_wp2_with (at_builtin; refine wpList_pushRow rfl (.tmp 109) (.tmp 111) 26 rfl W4.heap.size 23 22 (by decide) i1' (.slice none 0 0) 24 Try.underlying26 hi1 hi1z hi1z1 hi1b rfl (.slice oa k oc) _ rfl HO2.out (.slice (some ⟨g, 0, none⟩) j j) (autR j kk q x x) HU.out ws.heap.size rfl rfl rfl (by rw [hol]; unfold maxLen; omega) (by rw [hol]; omega) (by omega) ?_; intro v6 W6 hr6 hz6 hBB6 hKK6; obtain ⟨g6, c6, rfl⟩ := hr6.open_; rw [hl6] at hr6 ⊢; obtain ⟨h16, hO6⟩ := HO5.out.push (by omega) (by omega) hr6 hBB6; obtain ⟨-, -, e26, -, -, f26⟩ := elem_cells (h16 _ HO1.out))
          have HO6 := Lib.hid hO6
          clear hO6 hBB6 hKK6 hr6 h16
          go_wp2
          go_roundw
          case rel =>
            refine ⟨k + 1, by omega, by go_num, ?_⟩
            show OutE _ _ _ _ _ _ _
            rw [zipRows_succ _ _ _ _ _ _ _ _ HQ.out HX.out HX.out]
            exact HO6.out
          case measure => simp [intOf]; omega
    · obtain rfl : k = R := by omega
      obtain ⟨oa, oc, o1, o2⟩ := hO.out.open_
      rw [zipRows_length] at o1
      obtain ⟨e0', e1', e2', -, -, -⟩ := elem_cells o1
      have he6 := (hO.out.block (b := w.heap.size + 1 + 1) (by omega) (by omega)).trans HRC.out
      obtain ⟨k0, k1, k2, f0, f1, f2⟩ := elem_cells he6
      have hlz := lt_of_heap he6
      have HO1 := Lib.hid o1
      have HE6 := Lib.hid he6
      clear o1 o2 he6
      go_wp2
      obtain ⟨W6, hW6⟩ : ∃ W6, W6 = ((wo.setCell ⟨w.heap.size + 1 + 1, 0, none⟩ (.int .i64 (lv : Int))).setCell ⟨w.heap.size + 1 + 1, 1, none⟩ (.bool sa)).setCell ⟨w.heap.size + 1 + 1, 2, none⟩ (.slice oa k oc) := ⟨_, rfl⟩
      obtain ⟨h6, hr6, hB6⟩ := hO.out.store HO1.out (by omega) (by omega) HE6.out hW6
      obtain ⟨j0, j1, j2, -, -, -⟩ := elem_cells h6
      rw [← hW6]
      refine bodyPost_ret (v := .tuple #[.agg #[.int .i64 (lv : Int), .bool sa, .slice oa k oc], .int .i64 0]) ?_ rfl (EltPost.ok_ (by rw [HMR2.out]; exact hr6.mono (by have := hO.out.size; omega)) hB6)
      simp [results, Try.results29, go_sem, j0, j1, j2]
end Go.Proofs.Ytkjlfjnncdkmlaa.G

/- Walks: the law's copy of an element. -/
namespace Go.Proofs.Ytkjlfjnncdkmlaa.G
set_option linter.all false
open Go.RowKit Go.Shelf Go.BigFrame
theorem hugeB_spec {xs : List (List Nat)} (h : hugeB xs = false) : xs.length ≤ 60 ∧ ∀ r ∈ xs, r.length ≤ 100 := by
  unfold hugeB smallRows at h
  simp only [Bool.or_eq_false_iff, Bool.not_eq_false', decide_eq_false_iff_not] at h
  obtain ⟨h1, h2⟩ := h
  refine ⟨by omega, fun r hr => ?_⟩
  rw [List.take_of_length_le (by omega), List.all_eq_true] at h1
  exact of_decide_eq_true (h1 r hr)
set_option maxRecDepth 100000 in
set_option maxHeartbeats 40000000 in
theorem lent_any (la : Int) (sa : Bool) (av : Value) (xs : List (List Nat)) (hh : hugeB xs = false) (w : World) (ha : w.rows u32V w.heap.size av xs) :
    Calls Try.prog 21 #[.agg #[.int .i64 la, .bool sa, av]] w (MadeElt la sa xs w) := by
  obtain ⟨hs1, hs2⟩ := hugeB_spec hh
  obtain ⟨aa, ac, rfl, hac, ham, has⟩ := ha.shape
  obtain ⟨W0, hW0⟩ : ∃ W0, W0 = (w.alloc (.cells #[.int .i64 la, .bool sa, .slice aa xs.length ac] 28)).alloc (.cells #[.int .i64 0, .bool false, .slice none 0 0] 28) := ⟨_, rfl⟩
  have hB0 : Below w.heap.size w W0 := by rw [hW0]; exact ((Below.refl _ w).alloc (Nat.le_refl _) _).alloc (by simp) _
  have e0 : W0.heap[w.heap.size]? = some (.cells #[.int .i64 la, .bool sa, .slice aa xs.length ac] 28) := by rw [hW0, Below.heap_alloc _ _ _ (by simp)]; exact alloc_last _ _ rfl
  have e2 : W0.heap[w.heap.size + 1]? = some (.cells #[.int .i64 0, .bool false, .slice none 0 0] 28) := by rw [hW0]; exact alloc_last _ _ (by simp)
  have hz0 := lt_of_heap e2
  obtain ⟨xl, hxl⟩ : ∃ m, m = xs.length := ⟨_, rfl⟩
  rw [← hxl] at hs1 e0 hW0 hac ⊢
  obtain ⟨W3, hW3⟩ : ∃ W3, W3 = W0.alloc (.cells #[.int .i64 la, .bool sa, .slice none 0 0] 28) := ⟨_, rfl⟩
  have hb3 : Below W0.heap.size W0 W3 := by rw [hW3]; exact (Below.refl _ _).alloc (Nat.le_refl _) _
  have g3 : W3.heap[W0.heap.size]? = some (.cells #[.int .i64 la, .bool sa, .slice none 0 0] 28) := by rw [hW3]; exact alloc_last _ _ rfl
  have hz3 := lt_of_heap g3
  have hBw3 := hB0.trans (hb3.mono hB0.size)
  have HAC := Lib.hid ((hb3.block w.heap.size (by omega)).trans e0)
  have HRC := Lib.hid ((hb3.block (w.heap.size + 1) (by omega)).trans e2)
  have hO0 : Hid (OutE w W3 W0.heap.size la sa (xs.take 0) W3) := OutE.start (w := w) g3 hBw3
  have HA4 : Hid (∀ (j : Nat) (r : List Nat), xs[j]? = some r → ∃ b off b2 c2, aa = some ⟨b, off, none⟩ ∧ b < w.heap.size ∧ W3.cell? ⟨b, off + j, none⟩ = some (.slice b2 r.length c2) ∧ W3.reads w.heap.size (.slice b2 r.length c2) (r.map u32V)) := by
    intro j x hj
    obtain ⟨b, off, b2, c2, q1, q2, q3, q4⟩ := has j x hj
    exact ⟨b, off, b2, c2, q1, q2, (hBw3.cell (p := ⟨b, off + j, none⟩) q2).trans q3, q4.below hBw3⟩
  obtain ⟨HPOST, hpost⟩ : ∃ R, R = MadeElt la sa xs w := ⟨_, rfl⟩
  rw [← hpost]
  have HP := Lib.hid hpost
  have HXL := Lib.hid hxl
  have HSM := Lib.hid hs2
  have HW0 := Lib.hid hW0
  have HW3 := Lib.hid hW3
  obtain ⟨i0, hi0, hiz, hiz1, hizb⟩ := info_parts info32
  obtain ⟨i1', hi1, hi1z, hi1z1, hi1b⟩ := info_parts infoU32r
  obtain ⟨k0, k1, k2, -, -, -⟩ := elem_cells e0
  clear ha has hh hs2 g3 hW3 hW0 hxl hb3 hB0 hBw3 e0 e2 hpost
  go_enter Try.func21, Try.ntmps21
  go_upto_region 1 with (fail)
  rw [← HW0.out]
  go_upto_region 2 with (fail)
  rw [← HW3.out]
  clear k0 k1 k2
  go_wp2_with fail
  go_loopw [4] (fun ii wr => ∃ k : Nat, k ≤ xl ∧ ii = .int .i64 (k : Int) ∧ Hid (OutE w W3 W0.heap.size la sa (xs.take k) wr)) (fun ii _ => xl - (intOf ii).toNat)
  case atStart => exact ⟨0, Nat.zero_le _, rfl, hO0⟩
  case round =>
    obtain ⟨wo, rfl⟩ : ∃ x, x = wr := ⟨_, rfl⟩
    clear hO0
    obtain ⟨k, hk, rfl, hO⟩ := hrel
    obtain ⟨hsr, hsb⟩ := hO.out.size
    have hol : (xs.take k).length = k := by rw [List.length_take, ← HXL.out]; omega
    obtain ⟨d0, d1, d2, -, -, -⟩ := elem_cells ((hO.out.block (b := w.heap.size) (by omega) (by omega)).trans HAC.out)
    by_cases hlt : k < xl
    · obtain ⟨x, hx⟩ : ∃ x, xs[k]? = some x := ⟨xs[k]'(by rw [← HXL.out]; omega), List.getElem?_eq_getElem _⟩
      obtain ⟨ab, ao, axb, axc, rfl, hab, hcx, hxr⟩ := HA4.out k x hx
      have hx32 : x.length ≤ 100 := HSM.out x (List.mem_of_getElem? hx)
      have HX32 := Lib.hid hx32
      obtain ⟨n, hn⟩ : ∃ n, n = x.length := ⟨_, rfl⟩
      rw [← hn] at hcx hx32 hxr
      have HN := Lib.hid hn
      have s2 : wo.cell? ⟨ab, ao + k, none⟩ = some (.slice axb n axc) := by rw [hO.out.cell (by omega) (by omega), hcx]
      obtain ⟨-, -, s4, -, -, -⟩ := elem_cells ((hO.out.block (b := w.heap.size) (by omega) (by omega)).trans HAC.out)
      obtain ⟨oa, oc, o1, o2⟩ := hO.out.open_
      rw [hol] at o1 o2
      obtain ⟨-, -, s6, -, -, -⟩ := elem_cells o1
      have hxr2 : wo.reads wo.heap.size (.slice axb n axc) (x.map u32V) := by
        have := (hO.out.reads (B := w.heap.size) (by omega) (by omega) hxr).mono (show w.heap.size ≤ wo.heap.size by omega)
        exact this
      have HX := Lib.hid hx
      have HO1 := Lib.hid o1
      have HO2 := Lib.hid o2
      have HXR := Lib.hid hxr2
      have hl6 : (xs.take k ++ [x]).length = k + 1 := by rw [List.length_append, hol]; rfl
      have n2 : ¬ ab = W0.heap.size := by omega
      have n4 : ¬ w.heap.size = W0.heap.size := by omega
      have p0 : (wo.alloc (.cells #[] 22)).cell? ⟨W0.heap.size, 2, none⟩ = some (.slice oa k oc) := (World.cell?_alloc_lt wo _ ⟨W0.heap.size, 2, none⟩ hsb).trans s6
      have u1 : w.heap.size < wo.heap.size := by omega
      have u4 : ab < wo.heap.size := by omega
      have z0 : (0 : Int) ≤ (k : Int) := by omega
      have z1 : (k : Int) < (xl : Int) := by omega
      clear hx hcx hxr o1 o2 hxr2 hn
      go_wp2_with fail
      refine wp_region_line (fun w' => w'.cell? ⟨W0.heap.size, 2, none⟩ = some (.slice oa k oc) ∧ w'.cell? ⟨w.heap.size, 2, none⟩ = some (.slice (some ⟨ab, ao, none⟩) xl ac) ∧ w'.cell? ⟨ab, ao + k, none⟩ = some (.slice axb n axc)) 12 (by kernel_rfl) ⟨s6, s4, s2⟩ (fun hHeld => ?_)
      refine wpAnyT_take 0 (v := ?_) (by kernel_rfl) rfl (by kernel_rfl) (by decide) rfl (by kernel_rfl) (by kernel_rfl) (fun _ _ _ h => h) (Or.inl ⟨by rfl, ?_⟩) (by assumption) ?_
      rotate_left
      · (intro wq hSq; (try dsimp only at hSq); go_simp; try with_reducible rfl)
      try simp only [Act.put, List.setIfInBounds_toArray, List.set_cons_zero, List.set_cons_succ]
      refine wpAnyT_take 1 (v := ?_) (by kernel_rfl) rfl (by kernel_rfl) (by decide) rfl (by kernel_rfl) (by kernel_rfl) (fun _ _ _ h => h) (Or.inl ⟨by rfl, ?_⟩) (by assumption) ?_
      rotate_left
      · (intro wq hSq; (try dsimp only at hSq); go_simp; try with_reducible rfl)
      try simp only [Act.put, List.setIfInBounds_toArray, List.set_cons_zero, List.set_cons_succ]
      refine wpAnyT_take 3 (v := ?_) (by kernel_rfl) rfl (by kernel_rfl) (by decide) rfl (by kernel_rfl) (by kernel_rfl) (fun _ _ _ h => h) (Or.inl ⟨by rfl, ?_⟩) (by assumption) ?_
      rotate_left
      · (intro wq hSq; (try dsimp only at hSq); go_simp; try with_reducible rfl)
      try simp only [Act.put, List.setIfInBounds_toArray, List.set_cons_zero, List.set_cons_succ]
      refine wpAnyT_take 4 (v := ?_) (by kernel_rfl) rfl (by kernel_rfl) (by decide) rfl (by kernel_rfl) (by kernel_rfl) (fun _ _ _ h => h) (Or.inl ⟨by rfl, ?_⟩) (by assumption) ?_
      rotate_left
      · (intro wq hSq; (try dsimp only at hSq); go_simp; try with_reducible rfl)
      try simp only [Act.put, List.setIfInBounds_toArray, List.set_cons_zero, List.set_cons_succ]
      refine wpAnyT_take 5 (v := ?_) (by kernel_rfl) rfl (by kernel_rfl) (by decide) rfl (by kernel_rfl) (by kernel_rfl) (fun _ _ _ h => h) (Or.inl ⟨by rfl, ?_⟩) (by assumption) ?_
      rotate_left
      · (intro wq hSq; (try dsimp only at hSq); go_simp; try with_reducible rfl)
      try simp only [Act.put, List.setIfInBounds_toArray, List.set_cons_zero, List.set_cons_succ]
      refine wpAnyT_take 6 (v := ?_) (by kernel_rfl) rfl (by kernel_rfl) (by decide) rfl (by kernel_rfl) (by kernel_rfl) (fun _ _ _ h => h) (Or.inl ⟨by rfl, ?_⟩) (by assumption) ?_
      rotate_left
      · (intro wq hSq; (try dsimp only at hSq); go_simp; try with_reducible rfl)
      try simp only [Act.put, List.setIfInBounds_toArray, List.set_cons_zero, List.set_cons_succ]
      refine wpAnyT_take 7 (v := ?_) (by kernel_rfl) rfl (by kernel_rfl) (by decide) rfl (by kernel_rfl) (by kernel_rfl) (fun _ _ _ h => h) (Or.inl ⟨by rfl, ?_⟩) (by assumption) ?_
      rotate_left
      · (intro wq hSq; (try dsimp only at hSq); go_simp; try with_reducible rfl)
      try simp only [Act.put, List.setIfInBounds_toArray, List.set_cons_zero, List.set_cons_succ]
      refine wpAnyT_step 2 (by kernel_rfl) rfl (fun K hK => ?_)
      go_simp
      refine hK.out _ _ ⟨p0, (World.cell?_alloc_lt wo _ ⟨w.heap.size, 2, none⟩ u1).trans s4, (World.cell?_alloc_lt wo _ ⟨ab, ao + k, none⟩ u4).trans s2⟩ (fun hHeld2 => ?_)
      clear hK K hHeld
      try simp only [Act.put, List.setIfInBounds_toArray, List.set_cons_zero, List.set_cons_succ]
      refine wpAnyT_step 8 (by kernel_rfl) rfl (fun K hK => ?_)
      refine step_append_reads (by rfl) (.tmp 19) (.tmp 24) 23 (by rfl) wo.heap.size 22 i0 (.int .u32 0) 4 Try.underlying23 hi0 hiz hiz1 hizb rfl (.slice (some ⟨wo.heap.size, 0, none⟩) 0 0) 0 [] (by rfl) ((owns_empty wo _).drew) wo.heap.size (.slice axb n axc) (x.map u32V) (by rfl) ((HXR.out.alloc (Nat.le_refl _) _).drew) (one_u32 x) (by rw [List.length_map]; have := HX32.out; unfold maxLen; omega) (by rw [List.length_map]; have := HX32.out; omega) (by simp) ?_
      intro v4 w4 hown4 hg4
      have hb4 : Below wo.heap.size wo w4 := (((Below.refl _ wo).alloc (Nat.le_refl _) _).drew).grown hg4 (by simp) (fun k hk => by simp [Value.ownBlock] at hk; omega)
      have p6 : w4.cell? ⟨W0.heap.size, 2, none⟩ = some (.slice oa k oc) := (hb4.cell (p := ⟨W0.heap.size, 2, none⟩) hsb).trans s6
      have p4 : w4.cell? ⟨w.heap.size, 2, none⟩ = some (.slice (some ⟨ab, ao, none⟩) xl ac) := (hb4.cell (p := ⟨w.heap.size, 2, none⟩) u1).trans s4
      have p2 : w4.cell? ⟨ab, ao + k, none⟩ = some (.slice axb n axc) := (hb4.cell (p := ⟨ab, ao + k, none⟩) u4).trans s2
      have hz4 := hb4.size
      have HU : Hid (w4.owns W3.heap.size 22 1 v4 x.length (x.map u32V)) := by
        have h4 := hown4
        rw [List.nil_append, Nat.zero_add, List.length_map] at h4
        exact h4.mono (by omega)
      obtain ⟨va4, vc4, rfl, -, -, -⟩ := HU.out.at_
      have p7 : (w4.alloc (.cells #[.slice va4 x.length vc4] 23)).cell? ⟨W0.heap.size, 2, none⟩ = some (.slice oa k oc) := (World.cell?_alloc_lt w4 _ ⟨W0.heap.size, 2, none⟩ (show W0.heap.size < w4.heap.size by omega)).trans p6
      have HO5 := Lib.hid (hO.out.below hb4)
      have HR5 := Lib.hid (HO2.out.below hb4)
      have HG5 := Lib.hid ((hb4.block _ hsb).trans HO1.out)
      clear hown4 hg4
      refine hK.out _ _ ⟨p6, p4, p2⟩ (fun hHeld3 => ?_)
      clear hK K hHeld2
      try simp only [Act.put, List.setIfInBounds_toArray, List.set_cons_zero, List.set_cons_succ]
      refine wpAnyT_step 9 (by kernel_rfl) rfl (fun K hK => ?_)
      go_simp
      refine hK.out _ _ ⟨p7, (World.cell?_alloc_lt w4 _ ⟨w.heap.size, 2, none⟩ (show w.heap.size < w4.heap.size by omega)).trans p4, (World.cell?_alloc_lt w4 _ ⟨ab, ao + k, none⟩ (show ab < w4.heap.size by omega)).trans p2⟩ (fun hHeld4 => ?_)
      clear hK K hHeld3
      try simp only [Act.put, List.setIfInBounds_toArray, List.set_cons_zero, List.set_cons_succ]
      refine wpAnyT_step 10 (by kernel_rfl) rfl (fun K hK => ?_)
      refine step_pushRow (by rfl) (.tmp 18) (.tmp 26) 26 (by rfl) W3.heap.size 23 22 (by decide) i1' (.slice none 0 0) 24 Try.underlying26 hi1 hi1z hi1z1 hi1b rfl (.slice oa k oc) _ (by rfl) HR5.out _ x HU.out w4.heap.size rfl (by rfl) (by rfl) (by rw [hol]; unfold maxLen; omega) (by rw [hol]; omega) (by omega) ?_
      intro v6 w6 hr6 hz6 hBB6 hKK6
      obtain ⟨va6, vc6, rfl⟩ := hr6.open_
      rw [hl6] at hr6 ⊢
      obtain ⟨h16, hO6⟩ := HO5.out.push (by omega) (by omega) hr6 hBB6
      obtain ⟨-, -, e26, -, -, f26⟩ := elem_cells (h16 _ HG5.out)
      have hb6 := hBB6 W3.heap.size w4 (Below.refl _ _) (Nat.le_refl _)
      have o4 : w6.cell? ⟨w.heap.size, 2, none⟩ = some (.slice (some ⟨ab, ao, none⟩) xl ac) := (hb6.cell (p := ⟨w.heap.size, 2, none⟩) (show w.heap.size < _ by omega)).trans p4
      have o2 : w6.cell? ⟨ab, ao + k, none⟩ = some (.slice axb n axc) := (hb6.cell (p := ⟨ab, ao + k, none⟩) (show ab < _ by omega)).trans p2
      have HO6 := Lib.hid hO6
      clear hr6 hBB6 hKK6 hO6 h16 hb6
      refine hK.out _ _ ⟨e26, o4, o2⟩ (fun hHeld5 => ?_)
      clear hK K hHeld4
      try simp only [Act.put, List.setIfInBounds_toArray, List.set_cons_zero, List.set_cons_succ]
      refine wpAnyT_take 11 (v := ?_) (by kernel_rfl) rfl (by kernel_rfl) (by decide) rfl (by kernel_rfl) (by kernel_rfl) (fun _ _ _ h => h) (Or.inl ⟨by rfl, ?_⟩) (by assumption) ?_
      rotate_left
      · (intro wq hSq; (try dsimp only at hSq); go_simp; try with_reducible rfl)
      try simp only [Act.put, List.setIfInBounds_toArray, List.set_cons_zero, List.set_cons_succ]
      refine wpAnyT_last (by kernel_rfl) (by kernel_rfl) rfl (fun K hK => ?_)
      go_simp
      refine hK.out _ _ ?_
      clear hK K hHeld5
      go_wp2
      go_roundw
      case rel =>
        refine ⟨k + 1, by omega, by go_num, ?_⟩
        show OutE _ _ _ _ _ _ _
        have ht : xs.take (k + 1) = xs.take k ++ [x] := by rw [List.take_add_one, HX.out]; rfl
        rw [ht]
        exact HO6.out
      case measure => simp [intOf]; omega
    · obtain rfl : k = xl := by omega
      obtain ⟨oa, oc, o1, o2⟩ := hO.out.open_
      rw [hol] at o1
      obtain ⟨e0', e1', e2', -, -, -⟩ := elem_cells o1
      have he6 := (hO.out.block (b := w.heap.size + 1) (by omega) (by omega)).trans HRC.out
      obtain ⟨k0, k1, k2, f0, f1, f2⟩ := elem_cells he6
      have hlz := lt_of_heap he6
      have HO1 := Lib.hid o1
      have HE6 := Lib.hid he6
      have HTK : Hid (xs.take k = xs) := by show _ = _; rw [HXL.out]; exact List.take_length
      clear o1 o2 he6
      go_wp2
      obtain ⟨W6, hW6⟩ : ∃ W6, W6 = ((wo.setCell ⟨w.heap.size + 1, 0, none⟩ (.int .i64 la)).setCell ⟨w.heap.size + 1, 1, none⟩ (.bool sa)).setCell ⟨w.heap.size + 1, 2, none⟩ (.slice oa k oc) := ⟨_, rfl⟩
      obtain ⟨h6, hr6, hB6⟩ := hO.out.store HO1.out (by omega) (by omega) HE6.out hW6
      rw [HTK.out] at hr6
      obtain ⟨j0, j1, j2, -, -, -⟩ := elem_cells h6
      rw [← hW6, HP.out]
      refine bodyPost_ret (v := .agg #[.int .i64 la, .bool sa, .slice oa k oc]) ?_ rfl ⟨⟨_, rfl, hr6.mono (by have := hO.out.size; omega)⟩, hB6⟩
      simp [results, Try.results21, go_sem, j0, j1, j2]
end Go.Proofs.Ytkjlfjnncdkmlaa.G

/- Walks: the law's overwriting of an element's rows. -/
namespace Go.Proofs.Ytkjlfjnncdkmlaa.G
set_option linter.all false
open Go.RowKit Go.Shelf Go.BigFrame
structure SpI (base top : Nat) (a : Option Addr) (rs : List (List Nat)) (W : World) : Prop where
  row : ∀ (j : Nat) (r : List Nat), rs[j]? = some r → ∃ ob b2 c2, a = some ⟨ob, 0, none⟩ ∧ base ≤ ob ∧ ob < top ∧ (∃ cu fz, W.heap[ob]? = some (.cells cu 23 fz)) ∧ W.cell? ⟨ob, j, none⟩ = some (.slice b2 r.length c2) ∧ r.length ≤ c2 ∧ c2 ≤ 9223372036854775807 ∧
    ∀ k, k < r.length → ∃ eb u, b2 = some ⟨eb, 0, none⟩ ∧ base ≤ eb ∧ eb < top ∧ (∃ cu fz, W.heap[eb]? = some (.cells cu 22 fz)) ∧ W.cell? ⟨eb, k, none⟩ = some u ∧ W.frozen? ⟨eb, k, none⟩ = false
theorem SpI.keep {base top : Nat} {a : Option Addr} {rs : List (List Nat)} {W W' : World} (h : SpI base top a rs W) (hk : ∀ b, base ≤ b → b < top → W'.heap[b]? = W.heap[b]?) : SpI base top a rs W' := ⟨fun j r hj => by
  obtain ⟨ob, b2, c2, h1, h2, h3, ⟨cu, fz, h4⟩, h5, h6, h7, h8⟩ := h.row j r hj
  have ho := hk ob h2 h3
  refine ⟨ob, b2, c2, h1, h2, h3, ⟨cu, fz, ho.trans h4⟩, (World.cell?_of_block (a := ⟨ob, j, none⟩) ho).trans h5, h6, h7, fun k hk' => ?_⟩
  obtain ⟨eb, u, e1, e2, e3, ⟨cu, fz, e4⟩, e5, e6⟩ := h8 k hk'
  have he := hk eb e2 e3
  exact ⟨eb, u, e1, e2, e3, ⟨cu, fz, he.trans e4⟩, (World.cell?_of_block (a := ⟨eb, k, none⟩) he).trans e5, (World.frozen?_of_block (a := ⟨eb, k, none⟩) he).trans e6⟩⟩
theorem SpI.below {base top : Nat} {a : Option Addr} {rs : List (List Nat)} {W W' : World} (h : SpI base top a rs W) (ht : top ≤ W.heap.size) (hb : Below W.heap.size W W') : SpI base top a rs W' :=
  h.keep fun b _ h2 => hb.block b (by omega)
theorem SpI.other {base top p k : Nat} {a : Option Addr} {rs : List (List Nat)} {W : World} {cu : Array Value} {fz : Nat × Nat} (h : SpI base top a rs W) (hp : W.heap[p]? = some (.cells cu 28 fz)) (x : Value) : SpI base top a rs (W.setCell ⟨p, k, none⟩ x) := ⟨fun j r hj => by
  obtain ⟨ob, b2, c2, h1, h2, h3, ⟨cu1, fz1, h4⟩, h5, h6, h7, h8⟩ := h.row j r hj
  have hne : ob ≠ p := by rintro rfl; rw [hp] at h4; injection h4 with h4; injection h4 with _ h4 _; exact absurd h4 (by decide)
  have ho : (W.setCell ⟨p, k, none⟩ x).heap[ob]? = W.heap[ob]? := Below.heap_setCell _ _ _ _ (by exact hne)
  refine ⟨ob, b2, c2, h1, h2, h3, ⟨cu1, fz1, ho.trans h4⟩, (World.cell?_of_block (a := ⟨ob, j, none⟩) ho).trans h5, h6, h7, fun k' hk' => ?_⟩
  obtain ⟨eb, u, e1, e2, e3, ⟨cu2, fz2, e4⟩, e5, e6⟩ := h8 k' hk'
  have hne2 : eb ≠ p := by rintro rfl; rw [hp] at e4; injection e4 with e4; injection e4 with _ e4 _; exact absurd e4 (by decide)
  have he : (W.setCell ⟨p, k, none⟩ x).heap[eb]? = W.heap[eb]? := Below.heap_setCell _ _ _ _ (by exact hne2)
  exact ⟨eb, u, e1, e2, e3, ⟨cu2, fz2, he.trans e4⟩, (World.cell?_of_block (a := ⟨eb, k', none⟩) he).trans e5, (World.frozen?_of_block (a := ⟨eb, k', none⟩) he).trans e6⟩⟩
theorem typ_set {W : World} {eb k : Nat} {x : Value} {b : Nat} {T : TypeId} (h : ∃ cu fz, W.heap[b]? = some (.cells cu T fz)) : ∃ cu fz, (W.setCell ⟨eb, k, none⟩ x).heap[b]? = some (.cells cu T fz) := by
  obtain ⟨cu, fz, h⟩ := h
  by_cases hb : b = eb
  · subst hb
    exact ⟨cu.setIfInBounds k x, fz, by simp [World.setCell, Array.getElem?_modify, h]⟩
  · exact ⟨cu, fz, (Below.heap_setCell _ _ _ _ (by exact hb)).trans h⟩
theorem SpI.set {base top : Nat} {a : Option Addr} {rs : List (List Nat)} {W : World} (h : SpI base top a rs W) {eb k : Nat} (hT : ∃ cu fz, W.heap[eb]? = some (.cells cu 22 fz)) (x : Value) : SpI base top a rs (W.setCell ⟨eb, k, none⟩ x) := ⟨fun j r hj => by
  obtain ⟨ob, b2, c2, h1, h2, h3, ⟨cu1, fz1, h4⟩, h5, h6, h7, h8⟩ := h.row j r hj
  have hne : eb ≠ ob := by
    rintro rfl
    obtain ⟨cu, fz, hT⟩ := hT
    rw [hT] at h4; injection h4 with h4; injection h4 with _ h4 _; exact absurd h4 (by decide)
  refine ⟨ob, b2, c2, h1, h2, h3, typ_set ⟨cu1, fz1, h4⟩, (World.cell?_setCell_far W ⟨eb, k, none⟩ ⟨ob, j, none⟩ x hne).trans h5, h6, h7, fun k' hk' => ?_⟩
  obtain ⟨eb', u, e1, e2, e3, e4, e5, e6⟩ := h8 k' hk'
  obtain ⟨u', hu⟩ := cell?_setCell_some (p := ⟨eb, k, none⟩) (x := x) e5
  exact ⟨eb', u', e1, e2, e3, typ_set e4, hu, by rw [World.frozen?_setCell]; exact e6⟩⟩
theorem rowsO_spI {w : World} {base : Nat} {v : Value} {rs : List (List Nat)} (h : w.rowsO u32V base 23 22 v rs) : ∃ a c, v = .slice a rs.length c ∧ rs.length ≤ c ∧ c ≤ 9223372036854775807 ∧ SpI base w.heap.size a rs w := by
  obtain ⟨vs, g1, g2, g3⟩ := h
  obtain ⟨a, c, hv, q1, q2, q3⟩ := g2.at_
  refine ⟨a, c, hv, q1, q2, ⟨fun j r hj => ?_⟩⟩
  obtain ⟨u, hu, hown⟩ := g3 j r hj
  obtain ⟨b, p1, p2, p3, p4⟩ := q3 j u hu
  have hob : ∃ cu fz, w.heap[b]? = some (.cells cu 23 fz) := by
    rcases g2.2 with ⟨r1, r2⟩ | ⟨g, cap, cur, fz, rfl, hbg, hg, -⟩
    · rw [r1] at hv; injection hv with hv; rw [← hv] at p1; cases p1
    · injection hv with hv
      rw [← hv] at p1
      injection p1 with p1; injection p1 with p1
      subst p1
      exact ⟨cur, fz, hg⟩
  obtain ⟨b2, c2, rfl, r1, r2, r3⟩ := hown.at_
  refine ⟨b, b2, c2, p1, p2, p3, hob, p4, r1, r2, fun k hk => ?_⟩
  obtain ⟨eb, e1, e2, e3, e4⟩ := r3 k (u32V (r[k]'hk)) (by simp [hk])
  rcases hown.2 with ⟨s1, s2⟩ | ⟨g, cap, cur, fz, s1, s2, s3, s4, s5, s6, s7, s8⟩
  · omega
  · injection s1 with s1
    rw [e1] at s1
    injection s1 with s1; injection s1 with s1
    subst s1
    refine ⟨eb, _, e1, e2, e3, ⟨cur, fz, s3⟩, e4, ?_⟩
    have := s4 k (by rw [s7]; omega)
    simp [World.frozen?, s3]
    omega
def SpS (base top : Nat) (w : World) (b : Nat) : Prop := (b < base ∨ (top ≤ b ∧ b < w.heap.size)) ∨ ∃ cu fz, w.heap[b]? = some (.cells cu 28 fz)
def SpPost (base top : Nat) (w : World) (e : Ending) (w' : World) : Prop :=
  e = .returned (.tuple #[]) ∧ KeepP (SpS base top w) w w' ∧ w.heap.size ≤ w'.heap.size ∧ ∀ B0 w0, Below B0 w0 w → B0 ≤ base → Below B0 w0 w'
set_option maxRecDepth 100000 in
set_option maxHeartbeats 8000000 in
theorem spoil_any (la : Int) (sa : Bool) (a : Option Addr) (c base top : Nat) (rs : List (List Nat)) (hl : rs.length ≤ 60) (hc : rs.length ≤ c) (hc2 : c ≤ 9223372036854775807) (w : World) (hbt : base ≤ w.heap.size) (htop : top ≤ w.heap.size) (h : SpI base top a rs w) (hrl : ∀ r ∈ rs, r.length ≤ 100) :
    Calls Try.prog 25 #[.agg #[.int .i64 la, .bool sa, .slice a rs.length c]] w (SpPost base top w) := by
  obtain ⟨n, hn⟩ : ∃ n, n = rs.length := ⟨_, rfl⟩
  rw [← hn] at hl hc ⊢
  obtain ⟨W0, hW0⟩ : ∃ W0, W0 = w.alloc (.cells #[.int .i64 la, .bool sa, .slice a n c] 28) := ⟨_, rfl⟩
  have hB0 : Below w.heap.size w W0 := by rw [hW0]; exact (Below.refl _ w).alloc (Nat.le_refl _) _
  have e0 : W0.heap[w.heap.size]? = some (.cells #[.int .i64 la, .bool sa, .slice a n c] 28) := by rw [hW0]; exact alloc_last _ _ rfl
  have hI0 := h.below htop hB0
  have hSl : ∀ b, SpS base top w b → b < w.heap.size := by
    rintro b ((h1 | h1) | ⟨cu, fz, h1⟩)
    · omega
    · exact h1.2
    · exact lt_of_heap h1
  have hK0 : KeepP (SpS base top w) w W0 := fun b hb => hB0.block b (hSl b hb)
  have hs0 := hB0.size
  obtain ⟨HPOST, hpost⟩ : ∃ R, R = SpPost base top w := ⟨_, rfl⟩
  rw [← hpost]
  have HP := Lib.hid hpost
  obtain ⟨k0, k1, k2, -, -, -⟩ := elem_cells e0
  have HE0 := Lib.hid e0
  have HI0 := Lib.hid hI0
  have HK0 := Lib.hid hK0
  have HS0 := Lib.hid hs0
  have HSL := Lib.hid hSl
  have HBB0 : Hid (∀ B0 w0, Below B0 w0 w → B0 ≤ base → Below B0 w0 W0) := fun B0 w0 h1 h2 => h1.trans (hB0.mono (by omega))
  have HN := Lib.hid hn
  have HRL := Lib.hid hrl
  have HW0 := Lib.hid hW0
  clear hn h hB0 e0 hI0 hK0 hs0 hpost hW0 hrl hSl
  go_enter Try.func25, Try.ntmps25
  go_upto_region 1 with (fail)
  rw [← HW0.out]
  obtain ⟨p, hp⟩ : ∃ p, p = w.heap.size := ⟨_, rfl⟩
  rw [← hp] at k0 k1 k2 HE0 ⊢
  have HPP := Lib.hid hp
  rw [hp.symm] at hbt htop HS0
  clear hp
  go_wp2
  go_loopw [2] (fun iv wr => ∃ i : Nat, i ≤ n ∧ iv = .int .i64 (i : Int) ∧ Hid (SpI base top a rs wr) ∧ Hid (KeepP (SpS base top w) w wr) ∧ Hid (p ≤ wr.heap.size) ∧ Hid (wr.heap[p]? = some (.cells #[.int .i64 la, .bool sa, .slice a n c] 28)) ∧ Hid (∀ B0 w0, Below B0 w0 w → B0 ≤ base → Below B0 w0 wr)) (fun iv _ => n - (intOf iv).toNat)
  case atStart => exact ⟨0, Nat.zero_le _, rfl, HI0.out, HK0.out, HS0.out, HE0.out, HBB0.out⟩
  case round =>
    obtain ⟨i, hi, rfl, HI, HK, HS, HE, HBB⟩ := hrel
    obtain ⟨wo, rfl⟩ : ∃ x, x = wr := ⟨_, rfl⟩
    clear k0 k1 k2
    obtain ⟨-, -, k2, -, -, -⟩ := elem_cells HE.out
    by_cases hlt : i < n
    · obtain ⟨r, hr⟩ : ∃ r, rs[i]? = some r := ⟨rs[i]'(by rw [← HN.out]; exact hlt), List.getElem?_eq_getElem _⟩
      have HR := Lib.hid hr
      have hrb := HRL.out r (List.mem_of_getElem? hr)
      obtain ⟨m, hm⟩ : ∃ m, m = r.length := ⟨_, rfl⟩
      rw [← hm] at hrb
      have HM := Lib.hid hm
      obtain ⟨ob, b2, c2, haob, hob1, hob2, -, g4, g5, g6, -⟩ := HI.out.row i r hr
      have HOB := Lib.hid haob
      rw [← hm] at g4 g5
      have i1 : (i : Int) < (n : Int) := by omega
      have i2 : (0 : Int) ≤ (i : Int) := by omega
      clear hr hm
      go_wp2
      go_loopw [3] (fun jv ws => ∃ j : Nat, j ≤ m ∧ jv = .int .i64 (j : Int) ∧ Hid (SpI base top a rs ws) ∧ Hid (KeepP (SpS base top w) w ws) ∧ Hid (p ≤ ws.heap.size) ∧ Hid (ws.heap[p]? = some (.cells #[.int .i64 la, .bool sa, .slice a n c] 28)) ∧ Hid (∀ B0 w0, Below B0 w0 w → B0 ≤ base → Below B0 w0 ws)) (fun jv _ => m - (intOf jv).toNat)
      case atStart => exact ⟨0, Nat.zero_le _, rfl, HI.out, HK.out, HS.out, HE.out, HBB.out⟩
      case round =>
        clear HI HK HS HE HBB k2 g4 g5 g6
        obtain ⟨j, hj, rfl, HI, HK, HS, HE, HBB⟩ := hrel
        obtain ⟨ws, rfl⟩ : ∃ x, x = wr := ⟨_, rfl⟩
        obtain ⟨-, -, k2, -, -, -⟩ := elem_cells HE.out
        obtain ⟨ob', b2, c2, g1, -, -, -, g4, g5, g6, g7⟩ := HI.out.row i r HR.out
        have haob2 := HOB.out
        obtain rfl : ob' = ob := by rw [haob2] at g1; injection g1 with g1; injection g1 with g1; exact g1.symm
        subst haob2
        rw [← HM.out] at g4 g5 g7
        by_cases hltj : j < m
        · obtain ⟨eb, u, e1, e2, e3, e4, e5, e6⟩ := g7 j hltj
          subst e1
          have j1 : (j : Int) < (m : Int) := by omega
          have j2 : (0 : Int) ≤ (j : Int) := by omega
          have hns : ¬ SpS base top w eb := by
            intro hs
            have hk := HK.out eb hs
            rcases hs with (h1 | h1) | ⟨cu, fz, h1⟩
            · omega
            · omega
            · obtain ⟨cu2, fz2, e4⟩ := e4
              rw [hk, h1] at e4
              injection e4 with e4; injection e4 with _ e4 _; exact absurd e4 (by decide)
          have hpe : p ≠ eb := by
            obtain ⟨cu2, fz2, e4⟩ := e4
            rintro rfl
            rw [HE.out] at e4
            injection e4 with e4; injection e4 with _ e4 _; exact absurd e4 (by decide)
          have HI2 := Lib.hid (HI.out.set (eb := eb) (k := j) e4 (.int .u32 4294967295))
          have HK2 : Hid (KeepP (SpS base top w) w (ws.setCell ⟨eb, j, none⟩ (.int .u32 4294967295))) := HK.out.setCell (by exact hns) _
          have HS2 : Hid (p ≤ (ws.setCell ⟨eb, j, none⟩ (.int .u32 4294967295)).heap.size) := by show _ ≤ _; simp; exact HS.out
          have HE2 : Hid ((ws.setCell ⟨eb, j, none⟩ (.int .u32 4294967295)).heap[p]? = some (.cells #[.int .i64 la, .bool sa, .slice (some ⟨ob', 0, none⟩) n c] 28)) := (Below.heap_setCell _ _ _ _ (by exact hpe)).trans HE.out
          have HBB2 : Hid (∀ B0 w0, Below B0 w0 w → B0 ≤ base → Below B0 w0 (ws.setCell ⟨eb, j, none⟩ (.int .u32 4294967295))) := fun B0 w0 h1 h2 => (HBB.out B0 w0 h1 h2).setCell (by simp; omega) _
          clear g7 e4 hns hpe
          go_wp2
          go_roundw
          case rel => exact ⟨j + 1, by omega, by go_num, HI2.out, HK2.out, HS2.out, HE2.out, HBB2.out⟩
          case measure => simp [intOf]; omega
        · obtain rfl : j = m := by omega
          clear g7
          go_wp2
          go_roundw
          case rel => exact ⟨i + 1, by omega, by go_num, HI.out, HK.out, HS.out, HE.out, HBB.out⟩
          case measure => simp [intOf]; omega
    · obtain rfl : i = n := by omega
      go_wp2
      go_end0
      rw [HP.out]
      refine ⟨rfl, HK.out, ?_, HBB.out⟩
      rw [← HPP.out]; exact HS.out
end Go.Proofs.Ytkjlfjnncdkmlaa.G

/- Walks: elements of integers (the program's): their rows are owned. -/
namespace Go.Proofs.Ytkjlfjnncdkmlaa.G
set_option linter.all false
open Go.RowKit Go.Shelf Go.BigFrame
set_option maxRecDepth 100000 in
set_option maxHeartbeats 8000000 in
theorem fromIntsO_any (N pr pw wt er : Int) (cv : Value) (chain : List Nat) (sp : Nat) (level : Int) (special : Bool) (lw : Value) (l : List Int) (w : World) (hr : w.reads w.heap.size cv (chain.map u32V)) (hl : w.reads w.heap.size lw (l.map i64V)) :
    Calls Try.prog 13 #[.agg #[.int .i64 N, .int .u32 pr, .int .i64 pw, cv, .int .u32 (sp : Int), .int .i64 wt, .int .u32 er], .int .i64 level, .bool special, lw] w (EltPost (intsB N chain sp level special l) level special (intRows (modl chain sp level.toNat special) l) w) := by
  obtain ⟨la, lcap, rfl, hlc, hlm, -⟩ := reads_i64 hl
  obtain ⟨W0, hW0⟩ : ∃ W0, W0 = (((w.alloc (.cells #[.int .i64 N, .int .u32 pr, .int .i64 pw, cv, .int .u32 (sp : Int), .int .i64 wt, .int .u32 er] 25)).alloc (.cells #[.slice la l.length lcap] 29)).alloc (.cells #[.int .i64 0, .bool false, .slice none 0 0] 28)) := ⟨_, rfl⟩
  have hB0 : Below w.heap.size w W0 := by rw [hW0]; exact (((Below.refl _ w).alloc (Nat.le_refl _) _).alloc (by simp) _).alloc (by simp; omega) _
  have hp0 : W0.heap[w.heap.size]? = some (.cells #[.int .i64 N, .int .u32 pr, .int .i64 pw, cv, .int .u32 (sp : Int), .int .i64 wt, .int .u32 er] 25) := by
    rw [hW0, Below.heap_alloc _ _ _ (by simp; omega), Below.heap_alloc _ _ _ (by simp)]; exact alloc_last _ _ rfl
  have ha0 : W0.heap[w.heap.size + 1]? = some (.cells #[.slice la l.length lcap] 29) := by
    rw [hW0, Below.heap_alloc _ _ _ (by simp)]; exact alloc_last _ _ (by simp)
  have hc0 : W0.heap[w.heap.size + 1 + 1]? = some (.cells #[.int .i64 0, .bool false, .slice none 0 0] 28) := by
    rw [hW0]; exact alloc_last _ _ (by simp)
  have hr0 := hr.below hB0
  have hl0 := hl.below hB0
  have hz0 := lt_of_heap hc0
  have HV := Lib.hid (fun W h1 h2 => valid_any N pr pw wt er cv chain sp w.heap.size w.heap.size W h1 h2)
  have HP := Lib.hid (fun W h1 h2 => place_any N pr pw wt er cv chain sp level special w.heap.size w.heap.size W h1 h2)
  obtain ⟨r, hrr⟩ : ∃ r, r = intsB N chain sp level special l := ⟨_, rfl⟩
  have hpost : ∀ e w', ((if r then ∃ rv, e = .returned (.tuple #[.agg #[.int .i64 level, .bool special, rv], .int .i64 0]) ∧ w'.rowsO u32V w.heap.size 23 22 rv (intRows (modl chain sp level.toNat special) l)
    else e = .returned (.tuple #[.agg #[.int .i64 0, .bool false, .slice none 0 0], .int .i64 2])) ∧ Below w.heap.size w w') → EltPost (intsB N chain sp level special l) level special (intRows (modl chain sp level.toNat special) l) w e w' := by
    intro e w' h; unfold EltPost; rw [← hrr]; exact h
  have HR := Lib.hid hrr
  have HPOST := Lib.hid hpost
  clear hrr hpost
  have HR0 := Lib.hid hr0
  have HL0 := Lib.hid hl0
  have HP0 := Lib.hid hp0
  have HW0 := Lib.hid hW0
  have HA0 := Lib.hid ha0
  have hcell0 : W0.cell? ⟨w.heap.size + 1 + 1, 0, none⟩ = some (.int .i64 0) := by simp [World.cell?, hc0]
  have hcell1 : W0.cell? ⟨w.heap.size + 1 + 1, 1, none⟩ = some (.bool false) := by simp [World.cell?, hc0]
  have hcell2 : W0.cell? ⟨w.heap.size + 1 + 1, 2, none⟩ = some (.slice none 0 0) := by simp [World.cell?, hc0]
  have hfz0 : W0.frozen? ⟨w.heap.size + 1 + 1, 0, none⟩ = false := by simp [World.frozen?, hc0]
  have hfz1 : W0.frozen? ⟨w.heap.size + 1 + 1, 1, none⟩ = false := by simp [World.frozen?, hc0]
  have hfz2 : W0.frozen? ⟨w.heap.size + 1 + 1, 2, none⟩ = false := by simp [World.frozen?, hc0]
  clear hr hl hr0 hl0 hW0
  go_enter Try.func13, Try.ntmps13
  go_wp2_with fail
  rw [← HW0.out]
  cases hv : validB N chain sp
  · obtain rfl : r = false := by rw [HR.out, intsB, preB, hv]; rfl
    rw [hv] at HV
    refine (HV.out _ HR0.out HP0.out).mono ?_
    rintro e w1 ⟨rfl, n1, rfl⟩
    clear HV HP hv hp0 ha0
    go_wp2
    refine bodyPost_ret (v := .tuple #[.agg #[.int .i64 0, .bool false, .slice none 0 0], .int .i64 2]) ?_ rfl (HPOST.out _ _ ⟨rfl, ?_⟩)
    · simp [results, Try.results13, go_sem, hcell0, hcell1, hcell2]
    · exact below_drewN (((hB0.setCell (by simp; omega) _).setCell (by simp; omega) _).setCell (by simp; omega) _) _
  · rw [hv] at HV
    refine (HV.out _ HR0.out HP0.out).mono ?_
    rintro e w1 ⟨rfl, n1, rfl⟩
    clear HV
    go_wp2_with fail
    cases hpl : placeB chain sp level special
    · obtain rfl : r = false := by rw [HR.out, intsB, preB, hpl]; simp
      rw [hpl] at HP
      refine (HP.out _ (HR0.out.drewN _) HP0.out).mono ?_
      rintro e w1 ⟨rfl, rfl⟩
      clear HP hv hpl hp0 ha0
      go_wp2
      refine bodyPost_ret (v := .tuple #[.agg #[.int .i64 0, .bool false, .slice none 0 0], .int .i64 2]) ?_ rfl (HPOST.out _ _ ⟨rfl, ?_⟩)
      · simp [results, Try.results13, go_sem, hcell0, hcell1, hcell2]
      · exact below_drewN (((hB0.setCell (by simp; omega) _).setCell (by simp; omega) _).setCell (by simp; omega) _) _
    · obtain ⟨lv, rfl, hl1, hl2⟩ := levB_nat hpl
      obtain ⟨n, rfl, hn1, hn2⟩ := sizeB_nat hv
      have hl24 := (validB_len hv).2
      have hmb : ∀ x, 3 ≤ modAt (modl chain sp lv special) x ∧ modAt (modl chain sp lv special) x ≤ 2147483647 := modAt_ok hv hpl
      have hck : intsB (n : Int) chain sp (lv : Int) special l = decide (l.length = n) := by
        rw [intsB, preB, hv, hpl]; simp; omega
      rw [hck] at HR
      rw [hpl] at HP
      refine (HP.out _ (HR0.out.drewN _) HP0.out).mono ?_
      rintro e w1 ⟨rfl, rfl⟩
      have HMB := Lib.hid hmb
      clear HP hv hpl hck hmb
      have a0 : W0.cell? ⟨w.heap.size + 1, 0, none⟩ = some (.slice la l.length lcap) := by simp [World.cell?, ha0]
      have p0 : W0.cell? ⟨w.heap.size, 0, none⟩ = some (.int .i64 (n : Int)) := (par_cells hp0).1
      clear hp0 ha0
      by_cases hln : l.length = n
      · obtain rfl : r = true := by rw [HR.out]; simp [hln]
        subst hln
        have hq : ((l.length : Int) != (l.length : Int)) = false := by simp
        have hF : Fills 47 #[.pointer (some ⟨w.heap.size + 1, 0, none⟩)] l.length (fun x => #[.int .i64 (x.val : Int), .int .u64 (modAt (modl chain sp lv special) x : Int)]) (fun x => l.map (resN (modAt (modl chain sp lv special) x))) (W0.drewN n1) := by
          intro x g W hB hg hz
          have hm := HMB.out x
          have hlW : W.reads (W0.drewN n1).heap.size (.slice la l.length lcap) (l.map i64V) := ((HL0.out.drewN n1).mono (by simpa using hB0.size)).below hB
          have hcW : W.heap[w.heap.size + 1]? = some (.cells #[.slice la l.length lcap] 29) := (hB.block (w.heap.size + 1) (by simp; omega)).trans HA0.out
          exact fromInts1_any (x.val : Int) (modAt (modl chain sp lv special) x) (by omega) (by omega) l _ l.length g (w.heap.size + 1) _ rfl W hlW hg hcW (by simp; omega) hz
        have HE := Lib.hid (fun W (hW : W = W0.drewN n1) => each_any l.length (by omega) pr pw wt er cv chain sp lv special w.heap.size W hl2 hl24 hl1 (fun x => by have := HMB.out x; omega) (by rw [hW]; exact (HR0.out.drewN n1).mono (by simpa using hB0.size)) (by rw [hW]; exact HP0.out) 47 #[.pointer (some ⟨w.heap.size + 1, 0, none⟩)] (fun x => l.map (resN (modAt (modl chain sp lv special) x))) (by simp) (by rw [hW]; exact hF) (enters_of Try.func47 (by kernel_rfl) rfl))
        clear hF
        go_wp2_with fail
        refine (HE.out _ rfl).mono ?_
        rintro e w3 ⟨⟨rv, rfl, hrows⟩, hb3⟩
        have hHR := Lib.hid hrows
        have hc3 := (hb3.block (w.heap.size + 1 + 1) (by simp; omega)).trans hc0
        obtain ⟨ra, rcap, rfl, -⟩ := hrows.now.shape
        have k0 : w3.cell? ⟨w.heap.size + 1 + 1, 0, none⟩ = some (.int .i64 0) := by simp [World.cell?, hc3]
        have k1 : w3.cell? ⟨w.heap.size + 1 + 1, 1, none⟩ = some (.bool false) := by simp [World.cell?, hc3]
        have k2 : w3.cell? ⟨w.heap.size + 1 + 1, 2, none⟩ = some (.slice none 0 0) := by simp [World.cell?, hc3]
        have z0 : w3.frozen? ⟨w.heap.size + 1 + 1, 0, none⟩ = false := by simp [World.frozen?, hc3]
        have z1 : w3.frozen? ⟨w.heap.size + 1 + 1, 1, none⟩ = false := by simp [World.frozen?, hc3]
        have z2 : w3.frozen? ⟨w.heap.size + 1 + 1, 2, none⟩ = false := by simp [World.frozen?, hc3]
        have hb3' : Below w.heap.size w w3 := (below_drewN hB0 n1).trans (hb3.mono (by simpa using hB0.size))
        have hz3 := lt_of_heap hc3
        clear hrows hb3
        go_wp2
        have HW6 : ∀ W6, W6 = ((w3.setCell ⟨w.heap.size + 1 + 1, 0, none⟩ (.int .i64 (lv : Int))).setCell ⟨w.heap.size + 1 + 1, 1, none⟩ (.bool special)).setCell ⟨w.heap.size + 1 + 1, 2, none⟩ (.slice ra (List.map (fun x => l.map (resN (modAt (modl chain sp lv special) x))) (List.finRange (modl chain sp lv special).length)).length rcap) → W6.heap[w.heap.size + 1 + 1]? = some (.cells #[.int .i64 (lv : Int), .bool special, .slice ra (List.map (fun x => l.map (resN (modAt (modl chain sp lv special) x))) (List.finRange (modl chain sp lv special).length)).length rcap] 28) := by
          rintro W6 rfl; simp [World.setCell, Array.getElem?_modify, hc3]
        obtain ⟨W6, hW6⟩ : ∃ W6, W6 = ((w3.setCell ⟨w.heap.size + 1 + 1, 0, none⟩ (.int .i64 (lv : Int))).setCell ⟨w.heap.size + 1 + 1, 1, none⟩ (.bool special)).setCell ⟨w.heap.size + 1 + 1, 2, none⟩ (.slice ra (List.map (fun x => l.map (resN (modAt (modl chain sp lv special) x))) (List.finRange (modl chain sp lv special).length)).length rcap) := ⟨_, rfl⟩
        have hc6 := HW6 W6 hW6
        have hs6 : ∀ g, (W0.drewN n1).heap.size ≤ g → W6.heap[g]? = w3.heap[g]? := by
          intro g hg
          rw [hW6]
          iterate 3 rw [Below.heap_setCell _ _ _ _ (by simp at hg ⊢; omega)]
        have hB6 : Below w.heap.size w W6 := by
          rw [hW6]; exact (((hb3'.setCell (by simp; omega) _).setCell (by simp; omega) _).setCell (by simp; omega) _)
        have hrw6 := (((hHR.out.2.setCell (a := ⟨w.heap.size + 1 + 1, 0, none⟩) (by simp; omega) (.int .i64 (lv : Int))).setCell (a := ⟨w.heap.size + 1 + 1, 1, none⟩) (by simp; omega) (.bool special)).setCell (a := ⟨w.heap.size + 1 + 1, 2, none⟩) (by simp; omega) (.slice ra (List.map (fun x => l.map (resN (modAt (modl chain sp lv special) x))) (List.finRange (modl chain sp lv special).length)).length rcap)).mono (show w.heap.size ≤ _ by simpa using hB0.size)
        rw [← hW6] at hrw6
        have hmapE : (List.finRange (modl chain sp lv special).length).map (fun x => l.map (resN (modAt (modl chain sp lv special) x))) = intRows (modl chain sp lv special) l := finRange_map _ (fun q => l.map (resN q))
        rw [hmapE] at hrw6 hc6
        rw [List.length_map, List.length_finRange] at hW6
        rw [← hW6]
        have j0 : W6.cell? ⟨w.heap.size + 1 + 1, 0, none⟩ = some (.int .i64 (lv : Int)) := by simp [World.cell?, hc6]
        have j1 : W6.cell? ⟨w.heap.size + 1 + 1, 1, none⟩ = some (.bool special) := by simp [World.cell?, hc6]
        have j2 : W6.cell? ⟨w.heap.size + 1 + 1, 2, none⟩ = some (.slice ra (intRows (modl chain sp lv special) l).length rcap) := by simp [World.cell?, hc6]
        refine bodyPost_ret (v := .tuple #[.agg #[.int .i64 (lv : Int), .bool special, .slice ra (intRows (modl chain sp lv special) l).length rcap], .int .i64 0]) ?_ rfl (HPOST.out _ _ ⟨?_, hB6⟩)
        · simp [results, Try.results13, go_sem, j0, j1, j2]
        · rw [if_pos trivial]
          exact ⟨_, rfl, by simpa using hrw6⟩
      · obtain rfl : r = false := by rw [HR.out]; simp [hln]
        have hq : ((l.length : Int) != (n : Int)) = true := by rw [bne_iff_ne]; omega
        clear hln
        go_wp2
        refine bodyPost_ret (v := .tuple #[.agg #[.int .i64 0, .bool false, .slice none 0 0], .int .i64 2]) ?_ rfl (HPOST.out _ _ ⟨rfl, ?_⟩)
        · simp [results, Try.results13, go_sem, hcell0, hcell1, hcell2]
        · exact below_drewN (((hB0.setCell (by simp; omega) _).setCell (by simp; omega) _).setCell (by simp; omega) _) _
end Go.Proofs.Ytkjlfjnncdkmlaa.G

/- Walks: the reference's products of elements. -/
