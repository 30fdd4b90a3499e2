/- Wide integers: helpers and walks, in one text (KD8 KD9). -/
import Derived.Test.YtnjblppapmflhaaKDb
/- Walks: a list and a list of rows that grow in one object. -/
namespace Go
open RowKit
/-- append of one element, which the statement lays into a block of its own: where the new row lies. -/
theorem wpList_pushF {P : Program} (W : World) {ops : Array Oper} {rest : List Oper} {o : Oper} {a : Act} {Q : Exit → Act → World → Prop} (hg : o.guard = none) (s x : Operand) (t : TypeId)
    (hop : o.op = .call { callee := .builtin .append, args := #[s, x], argTypes := #[t, t] })
    (base : Nat) (e : TypeId) (i : TypeInfo) (z : Value) (bytes : Nat) (ht : P.underlying t = some (.slice e)) (hi : P.info? e = some i) (hz : i.zero = some z)
    (hsize : i.size = 1) (hby : i.bytes = bytes) (hzs : z.cells.size = 1)
    (v : Value) (n : Nat) (xs : List Value) (hs : a.eval s = v) (hown : W.owns base e 1 v n xs) (u : Value) (H : Nat) (hH : W.heap.size = H) (hx : a.eval x = .slice (some ⟨H, 0, none⟩) 1 1) (h1 : u.oneCell' = true)
    (h63 : n + 1 ≤ maxLen) (hbytes : (n + 1) * bytes ≤ 140737488355328) (hbase : base ≤ W.heap.size)
    (h : ∀ v' w', w'.owns base e 1 v' (n + 1) (xs ++ [u]) → W.grownBy w' v.ownBlock → W.heap.size < w'.heap.size → (v'.ownBlock = v.ownBlock ∨ ∀ k, v'.ownBlock = some k → W.heap.size ≤ k) → wpList P ops Q rest (a.put o.dst v') w') : wpList P ops Q (o :: rest) a (W.alloc (.cells #[u] e)) := by
  subst hH
  refine wpList_plain hg fun K hK' => ?_
  obtain ⟨v', w', hrun, h2, h3, h4⟩ := run_append_fresh (P := P) (W.alloc (.cells #[u] e)) base t o.type e i z bytes ht hi hz hsize hby hzs v n xs (hown.alloc _) ⟨W.heap.size, 0, none⟩ 1 1 [u] rfl (news_alloc W [u] e) (by simpa using h1) h63 hbytes (by simp; omega)
  unfold Oper.wp execOp
  simp only [hop, resolve, invoke, builtin, Sem.run_bind, Sem.run_pure, Result.andThen_ok, List.map_toArray, List.map_cons, List.map_nil, hs, hx, hrun]
  refine hK' _ _ (h v' w' h2 (grownBy_trans (World.grownBy_alloc W _ _) h3) (by have := h3.size; simp at this; omega) ?_)
  rcases h4 with h4 | h4
  · exact .inl h4
  · exact .inr fun k hk => by have := h4 k hk; simp at this; omega
end Go
namespace Go.Proofs.Ytnjblppapmflhaa
set_option linter.all false
open Go.RowKit Go.Shelf Go.WideNum PN
/-- Rows that are owned; none of them lies where g does. -/
def RowsA (w : World) (base : Nat) (iv : Value) (rows : List (List Nat)) (g : Option Nat) : Prop :=
  ∃ vs : List Value, vs.length = rows.length ∧ w.owns base 22 1 iv rows.length vs ∧ ∀ (i : Nat) (r : List Nat), rows[i]? = some r → ∃ u, vs[i]? = some u ∧ w.owns base 23 1 u r.length (r.map u32V) ∧ (u.ownBlock = none ∨ u.ownBlock ≠ g)
theorem RowsA.nil (w : World) (base : Nat) (g : Option Nat) : RowsA w base (.slice none 0 0) [] g := ⟨[], rfl, World.owns_nil _ _ _ _, fun i r h => by simp at h⟩
theorem RowsA.below {w w' : World} {base : Nat} {iv : Value} {rows : List (List Nat)} {g : Option Nat} (h : RowsA w base iv rows g) (hb : Below w.heap.size w w') : RowsA w' base iv rows g := by
  obtain ⟨vs, h1, h2, h3⟩ := h
  exact ⟨vs, h1, h2.below hb, fun i r hr => by obtain ⟨u, k1, k2, k3⟩ := h3 i r hr; exact ⟨u, k1, k2.below hb, k3⟩⟩
theorem RowsA.setCell {w : World} {base : Nat} {iv : Value} {rows : List (List Nat)} {g : Option Nat} (h : RowsA w base iv rows g) {a : Addr} (ha : a.block < base) (x : Value) : RowsA (w.setCell a x) base iv rows g := by
  obtain ⟨vs, h1, h2, h3⟩ := h
  exact ⟨vs, h1, h2.setCell ha x, fun i r hr => by obtain ⟨u, k1, k2, k3⟩ := h3 i r hr; exact ⟨u, k1, k2.setCell ha x, k3⟩⟩
theorem RowsA.rows {w : World} {base : Nat} {iv : Value} {rows : List (List Nat)} {g : Option Nat} (h : RowsA w base iv rows g) : w.rows u32V w.heap.size iv rows := by
  obtain ⟨vs, h1, h2, h3⟩ := h
  exact ⟨vs, h1, h2.reads, fun i r hr => by obtain ⟨u, k1, k2, -⟩ := h3 i r hr; exact ⟨u, k1, k2.reads⟩⟩
theorem RowsA.open_ {w : World} {base : Nat} {iv : Value} {rows : List (List Nat)} {g : Option Nat} (h : RowsA w base iv rows g) : ∃ a c, iv = .slice a rows.length c := by
  obtain ⟨vs, h1, h2, _⟩ := h
  obtain ⟨a, c, rfl, -⟩ := h2.at_
  exact ⟨a, c, rfl⟩
/-- The list grows: the rows lie on where they did. -/
theorem RowsA.push_list {w w' : World} {base n : Nat} {iv lv lv' : Value} {xs : List Value} {rows : List (List Nat)} (h : RowsA w base iv rows lv.ownBlock) (hl : w.owns base 23 1 lv n xs) (hg : w.grownBy w' lv.ownBlock)
    (hf : lv'.ownBlock = lv.ownBlock ∨ ∀ k, lv'.ownBlock = some k → w.heap.size ≤ k) : RowsA w' base iv rows lv'.ownBlock := by
  obtain ⟨vs, h1, h2, h3⟩ := h
  refine ⟨vs, h1, h2.kept hg ?_, fun i r hr => ?_⟩
  · cases hv : lv.ownBlock with
    | none =>
      cases hi : iv.ownBlock with
      | none => exact .inl rfl
      | some k => exact .inr (by simp)
    | some k =>
      rcases hl.2 with ⟨rfl, _⟩ | ⟨g, cap, cur, fz, rfl, _, hgg, _⟩
      · simp [Value.ownBlock] at hv
      · simp [Value.ownBlock] at hv
        subst hv
        have := h2.ne hgg (by decide)
        exact .inr this
  · obtain ⟨u, k1, k2, k3⟩ := h3 i r hr
    refine ⟨u, k1, k2.kept hg k3, ?_⟩
    rcases hf with hf | hf
    · rw [hf]; exact k3
    · cases hu : u.ownBlock with
      | none => exact .inl rfl
      | some k =>
        refine .inr fun e => ?_
        have h5 := (k2.lt k hu).2
        have h6 := hf k e.symm
        omega
/-- One more row. -/
theorem RowsA.push_row {w w' : World} {base n : Nat} {iv iv' lv u : Value} {xs : List Value} {rows : List (List Nat)} {r : List Nat} (h : RowsA w base iv rows lv.ownBlock) (hl : w.owns base 23 1 lv n xs) (hu : w.owns base 23 1 u r.length (r.map u32V)) (hne : u.ownBlock = none ∨ u.ownBlock ≠ lv.ownBlock)
    (hg : w.grownBy w' iv.ownBlock) (hown : ∀ vs, w.owns base 22 1 iv rows.length vs → w'.owns base 22 1 iv' (rows.length + 1) (vs ++ [u])) :
    RowsA w' base iv' (rows ++ [r]) lv.ownBlock ∧ w'.owns base 23 1 lv n xs := by
  obtain ⟨vs, h1, h2, h3⟩ := h
  have hk : ∀ {n : Nat} {x : Value} {xs : List Value}, w.owns base 23 1 x n xs → w'.owns base 23 1 x n xs := by
    intro n x xs hx
    refine hx.kept hg ?_
    rcases h2.2 with ⟨rfl, _⟩ | ⟨g, cap, cur, fz, rfl, _, hgg, _⟩
    · cases hxo : x.ownBlock
      · exact .inl rfl
      · exact .inr (by simp [Value.ownBlock])
    · exact .inr (hx.ne hgg (by decide))
  refine ⟨⟨vs ++ [u], by simp [h1], by simpa using hown vs h2, fun i y hj => ?_⟩, hk hl⟩
  rcases Nat.lt_trichotomy i rows.length with hlt | rfl | hgt
  · rw [List.getElem?_append_left hlt] at hj
    obtain ⟨u', k1, k2, k3⟩ := h3 i y hj
    exact ⟨u', by rw [List.getElem?_append_left (by rw [h1]; exact hlt)]; exact k1, hk k2, k3⟩
  · rw [List.getElem?_append_right (Nat.le_refl _)] at hj
    simp at hj
    subst hj
    exact ⟨u, by rw [← h1, List.getElem?_append_right (Nat.le_refl _)]; simp, hk hu, hne⟩
  · rw [List.getElem?_append_right (by omega)] at hj
    have : i - rows.length ≠ 0 := by omega
    obtain ⟨m, hm⟩ := Nat.exists_eq_succ_of_ne_zero this
    rw [hm] at hj
    simp at hj
theorem RowsA.unique {w : World} {base : Nat} {iv : Value} {rows : List (List Nat)} {g : Option Nat} (h : RowsA w base iv rows g) : ∃ vs, w.owns base 22 1 iv rows.length vs ∧ ∀ vs', w.owns base 22 1 iv rows.length vs' → vs' = vs := by
  obtain ⟨vs, h1, k2, h3⟩ := h
  refine ⟨vs, k2, fun vs' hv' => ?_⟩
  rcases k2.2 with ⟨e1, e2⟩ | ⟨g, cap, cur, fz, rfl, _, q1, _, _, _, _, q2⟩
  · have a1 := k2.1; have a2 := hv'.1
    rw [e2] at a1 a2
    have b1 : vs = [] := List.eq_nil_of_length_eq_zero (by simpa using a1)
    have b2 : vs' = [] := List.eq_nil_of_length_eq_zero (by simpa using a2)
    rw [b1, b2]
  · rcases hv'.2 with ⟨e1, e2⟩ | ⟨g', cap', cur', fz', e1, _, q1', _, _, _, _, q2'⟩
    · cases e1
    · injection e1 with e1 e2 e3
      injection e1 with e1
      injection e1 with e1
      subst e1
      rw [q1] at q1'
      injection q1' with q1'
      injection q1' with q1' _ _
      rw [← q2, ← q2', q1']
/-- A system under way: its first primes, their inverses, and a product. -/
structure NewSt (w wr : World) (lv iv : Value) (l : List Nat) (rows : List (List Nat)) (Q : Nat) : Prop where
  h0 : wr.heap[w.heap.size]? = some (.cells #[lv, .bool (zN (Q : Nat)), .string (zT (Q : Nat)), iv, .bool true] 70)
  ol : wr.owns (w.heap.size + 1) 23 1 lv l.length (l.map u32V)
  rw' : RowsA wr (w.heap.size + 1) iv rows lv.ownBlock
  bel : Below w.heap.size w wr
theorem NewSt.below {w wr w' : World} {lv iv : Value} {l : List Nat} {rows : List (List Nat)} {Q : Nat} (h : NewSt w wr lv iv l rows Q) (hb : Below wr.heap.size wr w') : NewSt w w' lv iv l rows Q :=
  ⟨(hb.block _ (lt_of_heap h.h0)).trans h.h0, h.ol.below hb, h.rw'.below hb, h.bel.trans (hb.mono h.bel.size)⟩
theorem NewSt.sys {w wr : World} {lv iv : Value} {ps : List Nat} (h : NewSt w wr lv iv ps (invRows ps) (prodL ps)) : SysAt wr w.heap.size ps :=
  ⟨lv, iv, h.h0, h.ol.reads, h.rw'.rows⟩
theorem NewSt.size {w wr : World} {lv iv : Value} {l : List Nat} {rows : List (List Nat)} {Q : Nat} (h : NewSt w wr lv iv l rows Q) : w.heap.size + 1 ≤ wr.heap.size := lt_of_heap h.h0
theorem NewSt.pushL {w wr w' : World} {lv lv' iv : Value} {l : List Nat} {rows : List (List Nat)} {Q p : Nat} (h : NewSt w wr lv iv l rows Q) (ho : w'.owns (w.heap.size + 1) 23 1 lv' (l.length + 1) (l.map u32V ++ [u32V p])) (hg : wr.grownBy w' lv.ownBlock)
    (hf : lv'.ownBlock = lv.ownBlock ∨ ∀ k, lv'.ownBlock = some k → wr.heap.size ≤ k) : w'.heap[w.heap.size]? = some (.cells #[lv, .bool (zN (Q : Nat)), .string (zT (Q : Nat)), iv, .bool true] 70) ∧ NewSt w (w'.setCell ⟨w.heap.size, 0, none⟩ lv') lv' iv (l ++ [p]) rows Q := by
  have hs := h.size
  have hk : w'.heap[w.heap.size]? = some (.cells #[lv, .bool (zN (Q : Nat)), .string (zT (Q : Nat)), iv, .bool true] 70) := by
    rw [hg.block _ (by omega) (fun e => by have := (h.ol.lt _ e.symm).1; omega)]; exact h.h0
  refine ⟨hk, ?_, ?_, ?_, ?_⟩
  · simp [World.setCell, Array.getElem?_modify, hk]
  · have := ho.setCell (a := ⟨w.heap.size, 0, none⟩) (by simp) lv'
    rw [List.length_append, List.map_append]
    exact this
  · exact (h.rw'.push_list h.ol hg hf).setCell (by simp) _
  · have h1 : Below w.heap.size w w' := h.bel.grown hg (by omega) (fun k hk => by have := (h.ol.lt k hk).1; omega)
    exact h1.setCell (by simp) _
theorem NewSt.pushR {w wr w' : World} {lv iv iv' u : Value} {l : List Nat} {rows : List (List Nat)} {Q : Nat} {r : List Nat} (h : NewSt w wr lv iv l rows Q) (hu : wr.owns (w.heap.size + 1) 23 1 u r.length (r.map u32V)) (hne : u.ownBlock = none ∨ u.ownBlock ≠ lv.ownBlock)
    (hg : wr.grownBy w' iv.ownBlock) (hown : ∀ vs, wr.owns (w.heap.size + 1) 22 1 iv rows.length vs → w'.owns (w.heap.size + 1) 22 1 iv' (rows.length + 1) (vs ++ [u])) :
    w'.heap[w.heap.size]? = some (.cells #[lv, .bool (zN (Q : Nat)), .string (zT (Q : Nat)), iv, .bool true] 70) ∧ NewSt w (w'.setCell ⟨w.heap.size, 3, none⟩ iv') lv iv' l (rows ++ [r]) Q := by
  have hs := h.size
  obtain ⟨vs, k1, -⟩ := h.rw'.unique
  have hk : w'.heap[w.heap.size]? = some (.cells #[lv, .bool (zN (Q : Nat)), .string (zT (Q : Nat)), iv, .bool true] 70) := by
    rw [hg.block _ (by omega) (fun e => by have := (k1.lt _ e.symm).1; omega)]; exact h.h0
  obtain ⟨a1, a2⟩ := h.rw'.push_row h.ol hu hne hg hown
  refine ⟨hk, ?_, ?_, ?_, ?_⟩
  · simp [World.setCell, Array.getElem?_modify, hk]
  · exact a2.setCell (by simp) _
  · exact a1.setCell (by simp) _
  · have h1 : Below w.heap.size w w' := h.bel.grown hg (by omega) (fun k hk => by have := (k1.lt k hk).1; omega)
    exact h1.setCell (by simp) _
theorem NewSt.setQ {w wr : World} {lv iv : Value} {l : List Nat} {rows : List (List Nat)} {Q : Nat} (h : NewSt w wr lv iv l rows Q) (Q' : Nat) : NewSt w ((wr.setCell ⟨w.heap.size, 1, none⟩ (.bool (zN (Q' : Nat)))).setCell ⟨w.heap.size, 2, none⟩ (.string (zT (Q' : Nat)))) lv iv l rows Q' := by
  refine ⟨?_, ?_, ?_, ?_⟩
  · simp [World.setCell, Array.getElem?_modify, h.h0]
  · exact (h.ol.setCell (by simp) _).setCell (by simp) _
  · exact (h.rw'.setCell (by simp) _).setCell (by simp) _
  · exact (h.bel.setCell (by simp) _).setCell (by simp) _
end Go.Proofs.Ytnjblppapmflhaa

/- Walks: a system is made. -/
namespace Go.Proofs.Ytnjblppapmflhaa
set_option linter.all false
open Go.RowKit Go.Shelf Go.WideNum PN
def NewRet (w : World) (ps : List Nat) (ok : Bool) (e : Ending) (w' : World) : Prop :=
  Below w.heap.size w w' ∧ (if ok then e = .returned (.tuple #[.pointer (some ⟨w.heap.size, 0, none⟩), .int .i64 0]) ∧ SysAt w' w.heap.size ps else e = .returned (.tuple #[.pointer none, .int .i64 2]))
theorem NewRet.no {w w' : World} {ps : List Nat} (h : Below w.heap.size w w') : NewRet w ps false (.returned (.tuple #[.pointer none, .int .i64 2])) w' := ⟨h, rfl⟩
theorem infoU32r : (Try.prog.info? 22).map (fun i => (i.zero, i.size, i.bytes)) = some (some (.slice none 0 0), 1, 24) := by kernel_rfl
theorem hasB_iff (l : List Nat) (x : Nat) : hasB l x = true ↔ x ∈ l := by unfold hasB; simp
theorem SysTo.succ {ps : List Nat} {k p : Nat} (h : SysTo ps k) (hp : ps[k]? = some p) (ho : OkAt (ps.take k) p) : SysTo ps (k + 1) := by
  intro i hi q hq
  rcases (show i < k ∨ i = k by omega) with h1 | rfl
  · exact h i h1 q hq
  · rw [hp] at hq; injection hq with hq; rw [← hq]; exact ho
theorem not_sys {ps : List Nat} {k p : Nat} {ok : Bool} (hok : ok = true ↔ SysP ps) (hp : ps[k]? = some p) (h : ¬ OkAt (ps.take k) p) : ok = false := by
  cases h1 : ok
  · rfl
  · exact absurd ((hok.1 h1).2.2 k (List.getElem?_eq_some_iff.1 hp).1 p hp) h
theorem invRows_take {ps : List Nat} {k p : Nat} (hp : ps[k]? = some p) : (invRows ps).take (k + 1) = (invRows ps).take k ++ [(ps.take k).map fun q => invN (q % p) p] := take_succR (invRows_get hp)
  where take_succR {l : List (List Nat)} {i : Nat} {r : List Nat} (h : l[i]? = some r) : l.take (i + 1) = l.take i ++ [r] := by rw [List.take_add_one, h]; rfl
set_option maxRecDepth 100000 in
set_option maxHeartbeats 8000000 in
theorem New_any (ps : List Nat) (pv : Value) (w : World) (hr : w.reads w.heap.size pv (ps.map u32V)) (hpb : ∀ p ∈ ps, p < 4294967296) (ok : Bool) (hok : ok = true ↔ SysP ps) :
    Calls Try.prog 19 #[pv] w (NewRet w ps ok) := by
  obtain ⟨HPOST, hpost⟩ : ∃ R, R = NewRet w ps ok := ⟨_, rfl⟩
  rw [← hpost]
  have HP := Lib.hid hpost
  have HOK := Lib.hid hok
  have hl1 := hr.le_map
  have HR := Lib.hid hr
  have HPB := Lib.hid hpb
  obtain ⟨pa, pc, rfl, hpc, hpm, hps⟩ := reads_u32 hr
  have HS := Lib.hid hps
  obtain ⟨n, hn⟩ : ∃ n, n = ps.length := ⟨_, rfl⟩
  rw [← hn] at hpc hl1 HR ⊢
  have HN := Lib.hid hn
  clear hpost hok hr hps hn hpb
  by_cases h1 : n < 1
  · have t1 : (n : Int) < 1 := by omega
    obtain rfl : ok = false := by
      cases h : ok
      · rfl
      · have := (HOK.out.1 h).1; have := HN.out; omega
    clear h1
    go_enter Try.func19, Try.ntmps19
    go_wp2
    rw [HP.out]
    exact NewRet.no (Below.refl _ _)
  · have t1 : ¬ (n : Int) < 1 := by omega
    by_cases h2 : 25 < n
    · have t2 : (25 : Int) < (n : Int) := by omega
      obtain rfl : ok = false := by
        cases h : ok
        · rfl
        · have := (HOK.out.1 h).2.1; have := HN.out; omega
      clear h1 h2
      go_enter Try.func19, Try.ntmps19
      go_wp2
      rw [HP.out]
      exact NewRet.no (Below.refl _ _)
    · have t2 : ¬ (25 : Int) < (n : Int) := by omega
      have hof := fun W => Of_z 1 (by omega) (by omega) W
      obtain ⟨ob, hob⟩ : ∃ z, z = zN 1 := ⟨_, rfl⟩
      obtain ⟨ot, hot⟩ : ∃ z, z = zT 1 := ⟨_, rfl⟩
      rw [← hob, ← hot] at hof
      have HOF := Lib.hid hof
      have HOB := Lib.hid hob
      have HOT := Lib.hid hot
      clear hof hob hot h1 h2
      go_enter Try.func19, Try.ntmps19
      go_upto_region 4 with (fail)
      have hg0 : (w.alloc (.cells #[.slice none 0 0, .bool false, .string ⟨#[]⟩, .slice none 0 0, .bool true] 70)).heap[w.heap.size]? = some (.cells #[.slice none 0 0, .bool false, .string ⟨#[]⟩, .slice none 0 0, .bool true] 70) := heap_alloc_new w _
      have hab : Below w.heap.size w (w.alloc (.cells #[.slice none 0 0, .bool false, .string ⟨#[]⟩, .slice none 0 0, .bool true] 70)) := (Below.refl _ _).alloc (Nat.le_refl _) _
      generalize w.alloc (.cells #[.slice none 0 0, .bool false, .string ⟨#[]⟩, .slice none 0 0, .bool true] 70) = wa at hg0 hab ⊢
      have HG0 := Lib.hid hg0
      have HAB := Lib.hid hab
      clear hg0 hab
      go_wp2_with fail
      (with_reducible refine (HOF.out _).mono ?_)
      rintro e w1 ⟨rfl, hb1⟩
      have hg1 := (hb1.block _ (lt_of_heap HG0.out)).trans HG0.out
      have hb01 := HAB.out.trans (hb1.mono HAB.out.size)
      have hst : NewSt w ((w1.setCell ⟨w.heap.size, 1, none⟩ (.bool ob)).setCell ⟨w.heap.size, 2, none⟩ (.string ot)) (.slice none 0 0) (.slice none 0 0) [] [] 1 := by
        refine ⟨?_, World.owns_nil _ _ _ _, RowsA.nil _ _ _, (hb01.setCell (by simp) _).setCell (by simp) _⟩
        rw [HOB.out, HOT.out]
        simp [World.setCell, Array.getElem?_modify, hg1]
      have HST := Lib.hid hst
      obtain ⟨-, c1, c2, -, -, -, f1, f2, -⟩ := five_sys hg1
      clear hb1 hb01 hst hg1
      go_upto_region 5 with (fail)
      generalize (w1.setCell ⟨w.heap.size, 1, none⟩ (.bool ob)).setCell ⟨w.heap.size, 2, none⟩ (.string ot) = w2 at HST ⊢
      clear c1 c2 f1 f2 HG0 HAB HOF HOB HOT
      go_wp2_with fail
      go_loopw [29] (fun iv wr => ∃ k : Nat, k ≤ n ∧ iv = .int .i64 (k : Int) ∧ Hid (SysTo ps k) ∧ Hid (∃ lv rv, NewSt w wr lv rv (ps.take k) ((invRows ps).take k) (prodL (ps.take k)))) (fun iv _ => n - (intOf iv).toNat)
      case atStart => exact ⟨0, Nat.zero_le _, rfl, fun i hi => by omega, ⟨_, _, HST.out⟩⟩
      case round =>
        obtain ⟨k, hk, rfl, hto, hS⟩ := hrel
        obtain ⟨wo, rfl⟩ : ∃ x, x = wr := ⟨_, rfl⟩
        obtain ⟨lv, rv, hS⟩ := hS.out
        have HS0 := Lib.hid hS
        clear hS
        by_cases hlt : k < n
        · have hkp : k < ps.length := by rw [← HN.out]; exact hlt
          obtain ⟨p, hp⟩ : ∃ p, ps[k]? = some p := ⟨ps[k], List.getElem?_eq_getElem hkp⟩
          obtain ⟨b2, o2, rfl, hb2l, d2⟩ := HS.out k p hp
          have hpl : p < 4294967296 := HPB.out p (List.mem_of_getElem? hp)
          have e2 := (HS0.out.bel.cell (p := ⟨b2, o2 + k, none⟩) hb2l).trans d2
          have HP1 := Lib.hid hp
          have s1 : (k : Int) < (n : Int) := by omega
          have s2 : k ≤ pc := by omega
          have s3 : (k : Int) ≤ (pc : Int) := by omega
          clear hkp hp d2
          by_cases hev : p % 2 = 0
          · obtain rfl : ok = false := not_sys HOK.out HP1.out (fun h => by have := h.1; omega)
            have u1 : (p : Int) % 2 = 0 := by omega
            clear hev
            go_wp2
            rw [HP.out]
            exact NewRet.no HS0.out.bel
          · have u1 : (p : Int) % 2 = 1 := by omega
            by_cases hmx : 2147483647 < p
            · obtain rfl : ok = false := not_sys HOK.out HP1.out (fun h => by have := h.2.1; omega)
              have u2 : (2147483647 : Int) < (p : Int) := by omega
              clear hev hmx
              go_wp2
              rw [HP.out]
              exact NewRet.no HS0.out.bel
            · have u2 : ¬ (2147483647 : Int) < (p : Int) := by omega
              obtain ⟨has, hhas⟩ : ∃ z, z = hasB (ps.take k) p := ⟨_, rfl⟩
              have hcon : Calls Try.prog 49 #[.slice (some ⟨b2, o2, none⟩) k pc, .int .u32 (p : Int)] wo fun e w' => e = .returned (.bool has) ∧ wo = w' := by
                rw [hhas]
                have h1 := ((HR.out.below HS0.out.bel).take k (by omega))
                rw [← List.map_take] at h1
                exact Contains_any p _ (ps.take k) _ wo h1
              have HCON := Lib.hid hcon
              obtain ⟨pr, hpr⟩ := em_bool (PrimeP p)
              have HPRM := Lib.hid (fun W => Prime_any p hpl pr hpr W)
              have HPR := Lib.hid hpr
              have HHAS := Lib.hid hhas
              have hodd : p % 2 = 1 := by omega
              have hmax : p ≤ 2147483647 := by omega
              clear hcon hpr hhas hev hmx
              go_wp2_with fail
              (with_reducible refine (HCON.out).mono ?_)
              rintro e w3 ⟨rfl, rfl⟩
              cases has with
              | true =>
                obtain rfl : ok = false := not_sys HOK.out HP1.out (fun h => h.2.2.1 ((hasB_iff _ _).1 HHAS.out.symm))
                go_wp2
                rw [HP.out]
                exact NewRet.no HS0.out.bel
              | false =>
                go_wp2_with fail
                (with_reducible refine (HPRM.out _).mono ?_)
                rintro e w5 ⟨rfl, hb5⟩
                have HB5 := Lib.hid (HS0.out.bel.trans (hb5.mono HS0.out.bel.size))
                cases pr with
                | false =>
                  obtain rfl : ok = false := not_sys HOK.out HP1.out (fun h => by have := HPR.out.2 h.2.2.2; cases this)
                  clear hb5
                  go_wp2
                  rw [HP.out]
                  exact NewRet.no HB5.out
                | true =>
                  have hok1 : OkAt (ps.take k) p := ⟨hodd, hmax, fun h => (by have h2 := (hasB_iff _ _).2 h; rw [← HHAS.out] at h2; cases h2), HPR.out.1 rfl⟩
                  have HTO2 := Lib.hid (hto.out.succ HP1.out hok1)
                  have hprp := hok1.2.2.2.pr (by omega)
                  have HPP := Lib.hid hprp
                  have HS5 := Lib.hid (HS0.out.below hb5)
                  have hp3 : 3 ≤ p := by have := hprp.1; omega
                  have HCOP : Hid (∀ j q : Nat, j < k → ps[j]? = some q → Nat.gcd p (q % p) = 1 ∧ q ≤ 2147483647) := fun j q hj hq => by
                    obtain ⟨o1, o2, o3, o4⟩ := hto.out j hj q hq
                    have hne : p ≠ q := fun e => hok1.2.2.1 (by rw [e]; exact List.mem_of_getElem? (by rw [List.getElem?_take, if_pos hj]; exact hq))
                    refine ⟨?_, o2⟩
                    rw [Nat.gcd_comm, ← Nat.gcd_rec]
                    exact pr_cop hprp (o4.pr (by omega)) hne
                  obtain ⟨R, hR⟩ : ∃ R, R = (ps.take k).map fun q => invN (q % p) p := ⟨_, rfl⟩
                  have HRL := Lib.hid hR
                  have n1 : ((p : Int) == 0) = false := by rw [beq_eq_false_iff_ne]; omega
                  have hk24 : k ≤ 25 := by omega
                  obtain ⟨i0, hi0, hiz, hiz1, hizb⟩ := info_parts infoU32
                  have HI0 := Lib.hid hi0
                  clear hb5 hok1 hto hprp hR HCON HPRM HHAS hodd HS0 e2 hi0
                  go_wp2_with fail
                  go_loopw [7, 57] (fun sv jv wr => ∃ j : Nat, j ≤ k ∧ jv = .int .i64 (j : Int) ∧ Hid (wr.owns w5.heap.size 23 1 sv j ((R.take j).map u32V)) ∧ Hid (Below w5.heap.size w5 wr)) (fun _ jv _ => k - (intOf jv).toNat)
                  case atStart => exact ⟨0, Nat.zero_le _, rfl, World.owns_nil _ _ _ _, Below.refl _ _⟩
                  case round =>
                    obtain ⟨j, hj, rfl, hO, hB⟩ := hrel
                    obtain ⟨sa, sc, rfl, -⟩ := hO.out.at_
                    by_cases hjk : j < k
                    · have hjp : j < ps.length := by have := HN.out; omega
                      obtain ⟨q, hq⟩ : ∃ q, ps[j]? = some q := ⟨ps[j], List.getElem?_eq_getElem hjp⟩
                      obtain ⟨b3, o3, hpa3, hb3l, d3⟩ := HS.out j q hq
                      injection hpa3 with hpa3
                      injection hpa3 with hpa3 hpa4 _
                      subst hpa3 hpa4
                      obtain ⟨hgc, hqm⟩ := HCOP.out j q hjk hq
                      obtain ⟨qp, hqp⟩ : ∃ z, z = q % p := ⟨_, rfl⟩
                      have hqpl : qp < p := by rw [hqp]; exact Nat.mod_lt _ (by omega)
                      rw [← hqp] at hgc
                      obtain ⟨i1, i2, -⟩ := invN_spec (show 2 ≤ p by omega) hpl hqpl hgc
                      obtain ⟨iw, hiw⟩ : ∃ z, z = invN qp p := ⟨_, rfl⟩
                      rw [← hiw] at i1 i2
                      have HINV := Lib.hid (fun W => Inverse_in qp p iw hqpl (by omega) hmax i1 i2 W)
                      have n3 : (q : Int) % (p : Int) = (qp : Int) := by rw [hqp]; simp
                      have e3 := ((HB5.out.trans (hB.out.mono HB5.out.size)).cell (p := ⟨b2, o2 + j, none⟩) hb3l).trans d3
                      have hRj : R[j]? = some iw := by rw [HRL.out, List.getElem?_map, List.getElem?_take, if_pos hjk, hq, hiw, hqp]; rfl
                      have HNXT : Hid ((R.take (j + 1)).map u32V = (R.take j).map u32V ++ [.int .u32 (iw : Int)]) := by
                        show _ = _
                        rw [List.take_add_one, hRj, List.map_append]; rfl
                      have t3 : (j : Int) < (k : Int) := by omega
                      clear hq d3 hgc hqp i2 hiw hRj hjp hqm
                      go_wp2_with fail
                      (with_reducible refine (HINV.out _).mono ?_)
                      rintro e w6 ⟨rfl, hb6⟩
                      have HO6 := Lib.hid (hO.out.below hb6)
                      have HB6 := Lib.hid (hB.out.trans (hb6.mono hB.out.size))
                      have hz6 : w5.heap.size ≤ w6.heap.size := HB6.out.size
                      clear hb6 hO hB e3 HINV
                      go_wp2_with (at_builtin; refine wpList_push1 rfl (.tmp 69) (.tmp 71) 22 rfl w5.heap.size 23 i0 (.int .u32 0) 4 Try.underlying22 HI0.out hiz hiz1 hizb rfl (.slice sa j sc) j _ rfl HO6.out (.int .u32 (iw : Int)) w6.heap.size rfl rfl (by simp [Value.oneCell']) (by unfold maxLen; omega) (by omega) hz6 ?_; intro v7 w7 ho7 hs7 hB7; have HO7 := Lib.hid ho7; have HB7 := Lib.hid (hB7 w5.heap.size w5 HB6.out (Nat.le_refl _)); obtain ⟨va7, vc7, rfl, -⟩ := ho7.at_; clear ho7 hs7 hB7)
                      go_roundw
                      case rel => exact ⟨j + 1, by omega, by go_num, by
                        show World.owns _ _ _ _ _ _ _
                        rw [HNXT.out]
                        exact HO7.out, HB7.out⟩
                      case measure => simp [intOf]; omega
                    · obtain rfl : k = j := by omega
                      have hRl : R.length = k := by rw [HRL.out, List.length_map, List.length_take]; have := HN.out; omega
                      have hRt : R.take k = R := List.take_of_length_le (by omega)
                      have hO1 := hO.out
                      rw [hRt] at hO1
                      have hNS := HS5.out.below hB.out
                      have hs5 := HS5.out.size
                      have hOu : wr.owns (w.heap.size + 1) 23 1 (.slice sa k sc) R.length (R.map u32V) := by rw [hRl]; exact hO1.mono hs5
                      have hne : (Value.slice sa k sc).ownBlock = none ∨ (Value.slice sa k sc).ownBlock ≠ lv.ownBlock := by
                        cases hu : (Value.slice sa k sc).ownBlock with
                        | none => exact .inl rfl
                        | some g =>
                          refine .inr fun e => ?_
                          have q1 := (hO1.lt g hu).1
                          have q2 := (HS5.out.ol.lt g e.symm).2
                          omega
                      have hll : (ps.take k).length = k := by rw [List.length_take]; have := HN.out; omega
                      have hrl : ((invRows ps).take k).length = k := by rw [List.length_take]; simp [invRows]; have := HN.out; omega
                      obtain ⟨la, lc, hlv, -⟩ := hNS.ol.at_
                      rw [hll] at hlv
                      subst hlv
                      obtain ⟨ia, ic, hrv⟩ := hNS.rw'.open_
                      rw [hrl] at hrv
                      subst hrv
                      obtain ⟨c0, -, -, -, -, f0, -⟩ := five_sys hNS.h0
                      have hol := hNS.ol
                      rw [hll] at hol
                      have HOL := Lib.hid hol
                      have HNS := Lib.hid hNS
                      have HOU := Lib.hid hOu
                      have HNE := Lib.hid hne
                      have HRLEN := Lib.hid hRl
                      have HLL := Lib.hid hll
                      have HRRL := Lib.hid hrl
                      have hwr1 : w.heap.size + 1 ≤ wr.heap.size := hNS.size
                      obtain ⟨i1, hi1, hi1z, hi1z1, hi1b⟩ := info_parts infoU32r
                      have HI1 := Lib.hid hi1
                      have t5 : ¬ (k : Int) < (k : Int) := by omega
                      clear hO1 hNS hOu hne hol hRl hRt hll hrl hO hB hs5 hi1 HB5 HCOP
                      go_upto_region 18 with (at_builtin; refine wpList_pushF wr rfl (.tmp 79) (.tmp 81) 22 rfl (w.heap.size + 1) 23 i0 (.int .u32 0) 4 Try.underlying22 HI0.out hiz hiz1 hizb rfl (.slice la k lc) k _ rfl HOL.out (.int .u32 (p : Int)) wr.heap.size rfl rfl (by simp [Value.oneCell']) (by unfold maxLen; omega) (by omega) hwr1 ?_; intro v7 w7 ho7 hg7 hz7 hf7; obtain ⟨hk7, hN7⟩ := HNS.out.pushL (p := p) (by rw [HLL.out]; exact ho7) hg7 hf7; have HN7 := Lib.hid hN7; have HU7 := Lib.hid ((HOU.out.kept hg7 HNE.out).setCell (a := ⟨w.heap.size, 0, none⟩) (by simp) v7); have HF7 := Lib.hid hf7; have HZU : Hid (∀ g, (Value.slice sa k sc).ownBlock = some g → g < wr.heap.size) := (fun g hg => (HOU.out.lt g hg).2); obtain ⟨va7, vc7, rfl, -⟩ := ho7.at_; obtain ⟨c0, -, -, -, -, f0, -⟩ := five_sys hk7; clear ho7 hg7 hk7 hN7 hf7)
                      generalize w7.setCell ⟨w.heap.size, 0, none⟩ (.slice va7 (k + 1) vc7) = w8 at HN7 HU7 ⊢
                      clear c0 f0
                      have hne8 : (Value.slice sa k sc).ownBlock = none ∨ (Value.slice sa k sc).ownBlock ≠ (Value.slice va7 (k + 1) vc7).ownBlock := by
                        rcases HF7.out with h | h
                        · rw [h]; exact HNE.out
                        · cases hu : (Value.slice sa k sc).ownBlock with
                          | none => exact .inl rfl
                          | some g =>
                            refine .inr fun e => ?_
                            have q1 := HZU.out g hu
                            have q2 := h g e.symm
                            omega
                      have HNE8 := Lib.hid hne8
                      obtain ⟨vs8, k8, huniq8⟩ := HN7.out.rw'.unique
                      have hk8 := k8
                      rw [HRRL.out] at hk8
                      have HK8 := Lib.hid hk8
                      have HUQ := Lib.hid huniq8
                      obtain ⟨-, -, -, c3, -, -, -, -, f3⟩ := five_sys HN7.out.h0
                      have hw81 : w.heap.size + 1 ≤ w8.heap.size := HN7.out.size
                      clear hne8 k8 hk8 huniq8 hwr1 hz7
                      go_upto_region 19 with (at_builtin; refine wpList_pushF w8 rfl (.tmp 91) (.tmp 93) 66 rfl (w.heap.size + 1) 22 i1 (.slice none 0 0) 24 Try.underlying66 HI1.out hi1z hi1z1 hi1b rfl (.slice ia k ic) k vs8 rfl HK8.out (.slice sa k sc) w8.heap.size rfl rfl (by rfl) (by unfold maxLen; omega) (by omega) hw81 ?_; intro v9 w9 ho9 hg9 hz9 hf9; obtain ⟨hk9, hN9⟩ := HN7.out.pushR (iv' := v9) HU7.out HNE8.out hg9 (fun vs hvs => by rw [HUQ.out vs hvs, HRRL.out]; exact ho9); have HN9 := Lib.hid hN9; obtain ⟨va9, vc9, rfl, -⟩ := ho9.at_; obtain ⟨-, -, -, c3, -, -, -, -, f3⟩ := five_sys hk9; clear ho9 hg9 hk9 hN9 hf9 hz9)
                      generalize w9.setCell ⟨w.heap.size, 3, none⟩ (.slice va9 (k + 1) vc9) = wA at HN9 ⊢
                      clear c3 f3 HN7 HU7 HK8 HUQ HNE8 hw81
                      obtain ⟨X, hX⟩ : ∃ X, X = prodL (ps.take k) := ⟨_, rfl⟩
                      obtain ⟨Y, hY⟩ : ∃ Y, Y = X * p := ⟨_, rfl⟩
                      have hYp : Y = prodL (ps.take (k + 1)) := by rw [take_succ' HP1.out, prodL_snoc, ← hX, hY]
                      have hbd : ∀ i, i ≤ 26 → prodL (ps.take i) < 4294967296 ^ 64 := fun i hi => by
                        have h1 := prodL_lt (l := ps.take i) (fun q hq => HPB.out q (List.mem_of_mem_take hq))
                        have h2 : 4294967296 ^ (ps.take i).length ≤ 4294967296 ^ 26 := Nat.pow_le_pow_right (by omega) (by rw [List.length_take]; omega)
                        have h3 : 4294967296 ^ 26 < 4294967296 ^ 64 := Nat.pow_lt_pow_right (by omega) (by omega)
                        omega
                      have rX : InR (X : Int) := by unfold InR; rw [Int.natAbs_natCast, lim_words, hX]; exact hbd k (by omega)
                      have rY : InR (Y : Int) := by unfold InR; rw [Int.natAbs_natCast, lim_words, hYp]; exact hbd (k + 1) (by omega)
                      have rp : InR (p : Int) := inR_small (by omega)
                      have eY : (X : Int) * (p : Int) = (Y : Int) := by rw [hY]; simp
                      have hmul := fun W => Mul_z (X : Int) (p : Int) rX rp (by rw [eY]; exact rY) W
                      have hofp := fun W => Of_z (p : Int) (by omega) (by omega) W
                      unfold WideOk at hmul
                      rw [eY] at hmul
                      rw [← hX] at HN9
                      obtain ⟨-, c1, c2, -⟩ := five_sys HN9.out.h0
                      obtain ⟨xb, hxb⟩ : ∃ z, z = zN (X : Int) := ⟨_, rfl⟩
                      obtain ⟨xt, hxt⟩ : ∃ z, z = zT (X : Int) := ⟨_, rfl⟩
                      obtain ⟨yb, hyb⟩ : ∃ z, z = zN (Y : Int) := ⟨_, rfl⟩
                      obtain ⟨yt, hyt⟩ : ∃ z, z = zT (Y : Int) := ⟨_, rfl⟩
                      obtain ⟨pb, hpb⟩ : ∃ z, z = zN (p : Int) := ⟨_, rfl⟩
                      obtain ⟨pt, hpt⟩ : ∃ z, z = zT (p : Int) := ⟨_, rfl⟩
                      rw [← hxb, ← hxt, ← hpb, ← hpt, ← hyb, ← hyt] at hmul
                      rw [← hxb] at c1
                      rw [← hxt] at c2
                      rw [← hpb, ← hpt] at hofp
                      have HMUL := Lib.hid hmul
                      have HOFP := Lib.hid hofp
                      have HYB := Lib.hid hyb
                      have HYT := Lib.hid hyt
                      have HYP := Lib.hid hYp
                      have hwA1 : w.heap.size < wA.heap.size := HN9.out.size
                      have w64p : IntKind.i64.wrap (p : Int) = (p : Int) := by rw [IntKind.wrap_i64]; omega
                      clear hmul hofp hxb hxt hyb hyt hpb hpt hX hY hYp hbd rX rY rp eY
                      go_wp2_with fail
                      refine wp_region_late (fun w' => w'.cell? ⟨w.heap.size, 1, none⟩ = some (.bool xb) ∧ w'.cell? ⟨w.heap.size, 2, none⟩ = some (.string xt)) (fun j => decide (j = 16)) (by kernel_rfl) ⟨c1, c2⟩ (fun hHeld => ?_)
                      refine wpAnyD_take 0 (v := ?_) (by kernel_rfl) (by kernel_rfl) rfl (by kernel_rfl) (by kernel_rfl) (fun _ _ _ h => h) (Or.inl ⟨by rfl, ?_⟩) (by assumption) ?_
                      rotate_left
                      · (intro wq hSq; (try dsimp only at hSq); go_simp; try with_reducible rfl)
                      try simp only [Act.put, List.setIfInBounds_toArray, List.set_cons_zero, List.set_cons_succ]
                      refine wpAnyD_take 1 (v := ?_) (by kernel_rfl) (by kernel_rfl) rfl (by kernel_rfl) (by kernel_rfl) (fun _ _ _ h => h) (Or.inl ⟨by rfl, ?_⟩) (by assumption) ?_
                      rotate_left
                      · (intro wq hSq; (try dsimp only at hSq); go_simp; try with_reducible rfl)
                      try simp only [Act.put, List.setIfInBounds_toArray, List.set_cons_zero, List.set_cons_succ]
                      refine wpAnyD_take 2 (v := ?_) (by kernel_rfl) (by kernel_rfl) rfl (by kernel_rfl) (by kernel_rfl) (fun _ _ _ h => h) (Or.inl ⟨by rfl, ?_⟩) (by assumption) ?_
                      rotate_left
                      · (intro wq hSq; (try dsimp only at hSq); go_simp; try with_reducible rfl)
                      try simp only [Act.put, List.setIfInBounds_toArray, List.set_cons_zero, List.set_cons_succ]
                      refine wpAnyD_take 3 (v := ?_) (by kernel_rfl) (by kernel_rfl) rfl (by kernel_rfl) (by kernel_rfl) (fun _ _ _ h => h) (Or.inl ⟨by rfl, ?_⟩) (by assumption) ?_
                      rotate_left
                      · (intro wq hSq; (try dsimp only at hSq); go_simp; try with_reducible rfl)
                      try simp only [Act.put, List.setIfInBounds_toArray, List.set_cons_zero, List.set_cons_succ]
                      refine wpAnyD_take 4 (v := ?_) (by kernel_rfl) (by kernel_rfl) rfl (by kernel_rfl) (by kernel_rfl) (fun _ _ _ h => h) (Or.inl ⟨by rfl, ?_⟩) (by assumption) ?_
                      rotate_left
                      · (intro wq hSq; (try dsimp only at hSq); go_simp; try with_reducible rfl)
                      try simp only [Act.put, List.setIfInBounds_toArray, List.set_cons_zero, List.set_cons_succ]
                      refine wpAnyD_take 5 (v := ?_) (by kernel_rfl) (by kernel_rfl) rfl (by kernel_rfl) (by kernel_rfl) (fun _ _ _ h => h) (Or.inl ⟨by rfl, ?_⟩) (by assumption) ?_
                      rotate_left
                      · (intro wq hSq; (try dsimp only at hSq); go_simp; try with_reducible rfl)
                      try simp only [Act.put, List.setIfInBounds_toArray, List.set_cons_zero, List.set_cons_succ]
                      refine wpAnyD_take 6 (v := ?_) (by kernel_rfl) (by kernel_rfl) rfl (by kernel_rfl) (by kernel_rfl) (fun _ _ _ h => h) (Or.inl ⟨by rfl, ?_⟩) (by assumption) ?_
                      rotate_left
                      · (intro wq hSq; (try dsimp only at hSq); go_simp; try with_reducible rfl)
                      try simp only [Act.put, List.setIfInBounds_toArray, List.set_cons_zero, List.set_cons_succ]
                      refine wpAnyD_take 7 (v := ?_) (by kernel_rfl) (by kernel_rfl) rfl (by kernel_rfl) (by kernel_rfl) (fun _ _ _ h => h) (Or.inl ⟨by rfl, ?_⟩) (by assumption) ?_
                      rotate_left
                      · (intro wq hSq; (try dsimp only at hSq); go_simp; try with_reducible rfl)
                      try simp only [Act.put, List.setIfInBounds_toArray, List.set_cons_zero, List.set_cons_succ]
                      refine wpAnyD_keep 8 (by kernel_rfl) rfl (fun K hK => ?_)
                      go_simp
                      go_at_call 37
                      (with_reducible refine (HOFP.out _).mono ?_)
                      rintro e wB ⟨rfl, hbB⟩
                      have hbB' : Below wA.heap.size wA wB := ((Below.refl wA.heap.size wA).drew).trans hbB
                      refine hK.out _ _ ⟨(hbB'.cell (p := ⟨w.heap.size, 1, none⟩) hwA1).trans c1, (hbB'.cell (p := ⟨w.heap.size, 2, none⟩) hwA1).trans c2⟩ (fun hHeld3 => ?_)
                      have HBB := Lib.hid hbB'
                      clear hK K hHeld hbB hbB'
                      try simp only [Act.put, List.setIfInBounds_toArray, List.set_cons_zero, List.set_cons_succ]
                      refine wpAnyD_keep 9 (by kernel_rfl) rfl (fun K hK => ?_)
                      go_simp
                      go_at_call 51
                      (with_reducible refine (HMUL.out _).mono ?_)
                      rintro e wC ⟨rfl, hbC⟩
                      have hbC' : Below wA.heap.size wA wC := below_via HBB.out hbC
                      refine hK.out _ _ ⟨(hbC'.cell (p := ⟨w.heap.size, 1, none⟩) hwA1).trans c1, (hbC'.cell (p := ⟨w.heap.size, 2, none⟩) hwA1).trans c2⟩ (fun hHeld4 => ?_)
                      have HNC := Lib.hid (HN9.out.below hbC')
                      clear hK K hHeld3 hbC hbC' c1 c2
                      try simp only [Act.put, List.setIfInBounds_toArray, List.set_cons_zero, List.set_cons_succ]
                      refine wpAnyD_takeW 10 (v := ?_) (by kernel_rfl) rfl (by kernel_rfl) (by kernel_rfl) (fun _ _ _ h => h) (Or.inl ⟨by rfl, ?_⟩) ?_
                      rotate_left
                      · (intro wq hSq; (try dsimp only at hSq); go_simp; try with_reducible rfl)
                      try simp only [Act.put, List.setIfInBounds_toArray, List.set_cons_zero, List.set_cons_succ]
                      refine wpAnyD_takeW 11 (v := ?_) (by kernel_rfl) rfl (by kernel_rfl) (by kernel_rfl) (fun _ _ _ h => h) (Or.inl ⟨by rfl, ?_⟩) ?_
                      rotate_left
                      · (intro wq hSq; (try dsimp only at hSq); go_simp; try with_reducible rfl)
                      try simp only [Act.put, List.setIfInBounds_toArray, List.set_cons_zero, List.set_cons_succ]
                      refine wpAnyD_takeW 12 (v := ?_) (by kernel_rfl) rfl (by kernel_rfl) (by kernel_rfl) (fun _ _ _ h => h) (Or.inl ⟨by rfl, ?_⟩) ?_
                      rotate_left
                      · (intro wq hSq; (try dsimp only at hSq); go_simp; try with_reducible rfl)
                      try simp only [Act.put, List.setIfInBounds_toArray, List.set_cons_zero, List.set_cons_succ]
                      refine wpAnyD_takeW 13 (v := ?_) (by kernel_rfl) rfl (by kernel_rfl) (by kernel_rfl) (fun _ _ _ h => h) (Or.inl ⟨by rfl, ?_⟩) ?_
                      rotate_left
                      · (intro wq hSq; (try dsimp only at hSq); go_simp; try with_reducible rfl)
                      try simp only [Act.put, List.setIfInBounds_toArray, List.set_cons_zero, List.set_cons_succ]
                      refine wpAnyD_takeW 14 (v := ?_) (by kernel_rfl) rfl (by kernel_rfl) (by kernel_rfl) (fun _ _ _ h => h) (Or.inl ⟨by rfl, ?_⟩) ?_
                      rotate_left
                      · (intro wq hSq; (try dsimp only at hSq); go_simp; try with_reducible rfl)
                      try simp only [Act.put, List.setIfInBounds_toArray, List.set_cons_zero, List.set_cons_succ]
                      refine wpAnyD_takeW 15 (v := ?_) (by kernel_rfl) rfl (by kernel_rfl) (by kernel_rfl) (fun _ _ _ h => h) (Or.inl ⟨by rfl, ?_⟩) ?_
                      rotate_left
                      · (intro wq hSq; (try dsimp only at hSq); go_simp; try with_reducible rfl)
                      try simp only [Act.put, List.setIfInBounds_toArray, List.set_cons_zero, List.set_cons_succ]
                      refine wpAnyD_step 16 (by kernel_rfl) rfl rfl (fun K hK => ?_)
                      obtain ⟨-, c1, c2, -, -, -, f1, f2, -⟩ := five_sys HNC.out.h0
                      go_simp
                      refine hK.out _ _ ?_
                      clear hK K hHeld4 c1 c2 f1 f2
                      refine wpAnyD_end (by kernel_rfl) ?_
                      go_wp2_with fail
                      go_roundw
                      case rel => exact ⟨k + 1, by omega, by go_num, HTO2.out, _, _, by
                        have h1 := HNC.out.setQ Y
                        rw [← HYB.out, ← HYT.out] at h1
                        rw [take_succ' HP1.out, invRows_take HP1.out, ← HRL.out, prodL_snoc, ← prodL_snoc, ← take_succ' HP1.out, ← HYP.out, take_succ' HP1.out]
                        exact h1⟩
                      case measure => simp [intOf]; omega
        · obtain rfl : k = n := by omega
          obtain rfl : ok = true := HOK.out.2 ⟨by have := HN.out; omega, by have := HN.out; omega, by rw [← HN.out]; exact hto.out⟩
          have h5 := HS0.out
          rw [HN.out, List.take_length, List.take_of_length_le (show (invRows ps).length ≤ ps.length by simp [invRows])] at h5
          have HF := Lib.hid h5
          clear h5 hto HS0
          go_wp2
          rw [HP.out]
          exact ⟨HF.out.bel, rfl, HF.out.sys⟩
end Go.Proofs.Ytnjblppapmflhaa
