/- Helpers and walks, in one text. -/
import Derived.Test.YtkjlfjnncdkmlaaPF5
import Derived.Deep.Upon
import Derived.ProofKit
import Derived.OpenShut
import Derived.ShutString
import Derived.ChangeOld
import Derived.SliceStrings
import Derived.Deep.Matrix
import Derived.WideShapes
/- Contracts: elements that are made, with rows of their own; what the overwriting of other rows leaves as it is. -/
namespace Go.Proofs.Ytkjlfjnncdkmlaa.G
set_option linter.all false
open Go.RowKit Go.Shelf Go.BigFrame
def EltOwn (ok : Bool) (lv : Int) (s : Bool) (rows : List (List Nat)) (w : World) (e : Ending) (w' : World) : Prop :=
  ∃ (la : Int) (sa : Bool) (ra : Option Addr) (n rc : Nat) (rs : List (List Nat)) (er : Int), e = .returned (.tuple #[.agg #[.int .i64 la, .bool sa, .slice ra n rc], .int .i64 er]) ∧ w'.rowsO u32V w.heap.size 23 22 (.slice ra n rc) rs ∧
    (ok = true → lv = la ∧ s = sa ∧ rows = rs ∧ 0 = er) ∧ (ok = false → 0 = la ∧ false = sa ∧ [] = rs ∧ 2 = er) ∧ Below w.heap.size w w'
theorem EltPost.own {ok : Bool} {lv : Int} {s : Bool} {rows : List (List Nat)} {w w' : World} {e : Ending} (h : EltPost ok lv s rows w e w') : EltOwn ok lv s rows w e w' := by
  obtain ⟨he, hb⟩ := h
  cases ok with
  | true =>
    rw [if_pos rfl] at he
    obtain ⟨rv, rfl, h2⟩ := he
    obtain ⟨ra, rc, rfl⟩ := h2.open_
    exact ⟨lv, s, ra, _, rc, rows, 0, rfl, h2, fun _ => ⟨rfl, rfl, rfl, rfl⟩, (fun h => by cases h), hb⟩
  | false =>
    rw [if_neg (by decide)] at he
    exact ⟨0, false, none, 0, 0, [], 2, he, World.rowsO_nil _ _ _ _, (fun h => by cases h), fun _ => ⟨rfl, rfl, rfl, rfl⟩, hb⟩
theorem el_eq {ok : Bool} {lv : Int} {s : Bool} {rows : List (List Nat)} {la la' : Int} {sa sa' : Bool} {rs rs' : List (List Nat)} {er er' : Int} (k : Hid (ok = true → lv = la ∧ s = sa ∧ rows = rs ∧ 0 = er)) (j : Hid (ok = false → 0 = la ∧ false = sa ∧ [] = rs ∧ 2 = er))
    (k' : Hid (ok = true → lv = la' ∧ s = sa' ∧ rows = rs' ∧ 0 = er')) (j' : Hid (ok = false → 0 = la' ∧ false = sa' ∧ [] = rs' ∧ 2 = er')) : la = la' ∧ sa = sa' ∧ rs = rs' ∧ er = er' := by
  cases ok with
  | true =>
    obtain ⟨rfl, rfl, rfl, rfl⟩ := k.out rfl
    obtain ⟨rfl, rfl, rfl, rfl⟩ := k'.out rfl
    exact ⟨rfl, rfl, rfl, rfl⟩
  | false =>
    obtain ⟨rfl, rfl, rfl, rfl⟩ := j.out rfl
    obtain ⟨rfl, rfl, rfl, rfl⟩ := j'.out rfl
    exact ⟨rfl, rfl, rfl, rfl⟩
structure ResAt (W : World) (b lo : Nat) (la : Int) (sa : Bool) (v : Value) (rs : List (List Nat)) : Prop where
  heap : W.heap[b]? = some (.cells #[.int .i64 la, .bool sa, v] 28)
  own : W.rowsO u32V lo 23 22 v rs
theorem ResAt.new {W W0 : World} {lo : Nat} {la : Int} {sa : Bool} {v : Value} {rs : List (List Nat)} (h : W.rowsO u32V W0.heap.size 23 22 v rs) (hl : lo ≤ W0.heap.size) : Hid (ResAt (W.alloc (.cells #[.int .i64 la, .bool sa, v] 28)) W.heap.size lo la sa v rs) :=
  ⟨heap_alloc_new W _, (h.below (below_new W _)).mono hl⟩
theorem ResAt.below {W W' : World} {b lo : Nat} {la : Int} {sa : Bool} {v : Value} {rs : List (List Nat)} (h : Hid (ResAt W b lo la sa v rs)) (hb : Below W.heap.size W W') : Hid (ResAt W' b lo la sa v rs) :=
  ⟨hold_heap (w := W) h.out.heap hb, h.out.own.below hb⟩
theorem ResAt.rows {W : World} {b lo : Nat} {la : Int} {sa : Bool} {v : Value} {rs : List (List Nat)} (h : ResAt W b lo la sa v rs) : W.rows u32V W.heap.size v rs := h.own.rows
theorem hLe {n : Nat} {W W' : World} (h : Hid (n ≤ W.heap.size)) (hb : Below W.heap.size W W') : Hid (n ≤ W'.heap.size) := Nat.le_trans h.out hb.size
theorem hSp {base top : Nat} {a : Option Addr} {rs : List (List Nat)} {W W' : World} (h : Hid (SpI base top a rs W ∧ top ≤ W.heap.size)) (hb : Below W.heap.size W W') : Hid (SpI base top a rs W' ∧ top ≤ W'.heap.size) := ⟨h.out.1.below h.out.2 hb, Nat.le_trans h.out.2 hb.size⟩
section
variable {base top : Nat} {W W' : World} (hk : Hid (KeepP (SpS base top W) W W'))
include hk
theorem sp_box {b : Nat} {cu : Array Value} (h : Hid (W.heap[b]? = some (.cells cu 28))) : Hid (W'.heap[b]? = some (.cells cu 28)) := (hk.out b (Or.inr ⟨cu, _, h.out⟩)).trans h.out
theorem sp_low {b : Nat} {o : Obj} (h : Hid (W.heap[b]? = some o)) (hb : b < base) : Hid (W'.heap[b]? = some o) := (hk.out b (Or.inl (Or.inl hb))).trans h.out
theorem ResAt.spoil {b lo : Nat} {la : Int} {sa : Bool} {v : Value} {rs : List (List Nat)} (h : Hid (ResAt W b lo la sa v rs)) (hl : top ≤ lo) : Hid (ResAt W' b lo la sa v rs) :=
  ⟨(sp_box hk (Lib.hid h.out.heap)).out, h.out.own.keepP hk.out (fun b h1 h2 => Or.inl (Or.inr ⟨by omega, h2⟩))⟩
end
theorem hRow_at {W w : World} {v : Value} {rs : List (List Nat)} (h : Hid (w.rows u32V w.heap.size v rs)) (hb : Hid (Below w.heap.size w W)) : Hid (W.rows u32V W.heap.size v rs) := (h.out.below hb.out).mono hb.out.size
theorem hR_at {W w : World} {v : Value} {l : List Value} (h : Hid (w.reads w.heap.size v l)) (hb : Hid (Below w.heap.size w W)) : Hid (W.reads W.heap.size v l) := (h.out.below hb.out).mono hb.out.size
section
variable {N pr pw wt er : Int} {cv : Value} {chain : List Nat} {sp : Nat} {la lb : Int} {sa sb : Bool} {av bv : Value} {xs ys : List (List Nat)} {X : World}
theorem neg_o (hr : X.reads X.heap.size cv (chain.map u32V)) (ha : X.rows u32V X.heap.size av xs) (n : Nat) (hn : n = N.toNat) (ml : List Nat) (hml : ml = modl chain sp la.toNat sa) (ok : Bool) (hok : ok = (checkB N chain sp la sa xs)) :
    Calls Try.prog 23 #[.agg #[.int .i64 N, .int .u32 pr, .int .i64 pw, cv, .int .u32 (sp : Int), .int .i64 wt, .int .u32 er], .agg #[.int .i64 la, .bool sa, av]] X (EltOwn ok la sa (zipRows (mulR (-1) n) ml xs xs ml.length) X) := by
  subst hn hml hok
  exact (neg_any N pr pw wt er cv chain sp la sa av xs X hr ha).mono fun _ _ h => h.own
theorem rneg_e (hr : X.reads X.heap.size cv (chain.map u32V)) (ha : X.rows u32V X.heap.size av xs) (n : Nat) (hn : n = N.toNat) (ml : List Nat) (hml : ml = modl chain sp la.toNat sa) (ok : Bool) (hok : ok = (checkB N chain sp la sa xs)) :
    Calls Try.prog 27 #[.agg #[.int .i64 N, .int .u32 pr, .int .i64 pw, cv, .int .u32 (sp : Int), .int .i64 wt, .int .u32 er], .agg #[.int .i64 la, .bool sa, av]] X (EltAny ok la sa (zipRows (mulR (-1) n) ml xs xs ml.length) X) := by
  subst hn hml hok
  exact (rneg_any N pr pw wt er cv chain sp la sa av xs X hr ha).mono fun _ _ h => h.any
theorem mulint_o (hr : X.reads X.heap.size cv (chain.map u32V)) (ha : X.rows u32V X.heap.size av xs) (m : Int) (hm : -9223372036854775808 ≤ m ∧ m ≤ 9223372036854775807) (n : Nat) (hn : n = N.toNat) (ml : List Nat) (hml : ml = modl chain sp la.toNat sa) (ok : Bool) (hok : ok = (checkB N chain sp la sa xs)) :
    Calls Try.prog 24 #[.agg #[.int .i64 N, .int .u32 pr, .int .i64 pw, cv, .int .u32 (sp : Int), .int .i64 wt, .int .u32 er], .agg #[.int .i64 la, .bool sa, av], .int .i64 m] X (EltOwn ok la sa (zipRows (mulR m n) ml xs xs ml.length) X) := by
  subst hn hml hok
  exact (mulint_any N pr pw wt er cv chain sp la sa av xs m hm.1 hm.2 X hr ha).mono fun _ _ h => h.own
theorem rmulint_e (hr : X.reads X.heap.size cv (chain.map u32V)) (ha : X.rows u32V X.heap.size av xs) (m : Int) (hm : -9223372036854775808 ≤ m ∧ m ≤ 9223372036854775807) (n : Nat) (hn : n = N.toNat) (ml : List Nat) (hml : ml = modl chain sp la.toNat sa) (ok : Bool) (hok : ok = (checkB N chain sp la sa xs)) :
    Calls Try.prog 28 #[.agg #[.int .i64 N, .int .u32 pr, .int .i64 pw, cv, .int .u32 (sp : Int), .int .i64 wt, .int .u32 er], .agg #[.int .i64 la, .bool sa, av], .int .i64 m] X (EltAny ok la sa (zipRows (mulR m n) ml xs xs ml.length) X) := by
  subst hn hml hok
  exact (rmulint_any N pr pw wt er cv chain sp la sa av xs m hm.1 hm.2 X hr ha).mono fun _ _ h => h.any
theorem auto_o (hr : X.reads X.heap.size cv (chain.map u32V)) (ha : X.rows u32V X.heap.size av xs) (k : Int) (hk : -9223372036854775808 ≤ k ∧ k ≤ 9223372036854775807) (n : Nat) (hn : n = N.toNat) (ml : List Nat) (hml : ml = modl chain sp la.toNat sa) (ok : Bool) (hok : ok = (checkB N chain sp la sa xs && autB N k)) :
    Calls Try.prog 20 #[.agg #[.int .i64 N, .int .u32 pr, .int .i64 pw, cv, .int .u32 (sp : Int), .int .i64 wt, .int .u32 er], .agg #[.int .i64 la, .bool sa, av], .int .i64 k] X (EltOwn ok la sa (zipRows (autR n k.toNat) ml xs xs ml.length) X) := by
  subst hn hml hok
  exact (auto_any N pr pw wt er cv chain sp la sa av xs k hk X hr ha).mono fun _ _ h => h.own
theorem rauto_e (hr : X.reads X.heap.size cv (chain.map u32V)) (ha : X.rows u32V X.heap.size av xs) (k : Int) (hk : -9223372036854775808 ≤ k ∧ k ≤ 9223372036854775807) (n : Nat) (hn : n = N.toNat) (ml : List Nat) (hml : ml = modl chain sp la.toNat sa) (ok : Bool) (hok : ok = (checkB N chain sp la sa xs && autB N k)) :
    Calls Try.prog 29 #[.agg #[.int .i64 N, .int .u32 pr, .int .i64 pw, cv, .int .u32 (sp : Int), .int .i64 wt, .int .u32 er], .agg #[.int .i64 la, .bool sa, av], .int .i64 k] X (EltAny ok la sa (zipRows (autR n k.toNat) ml xs xs ml.length) X) := by
  subst hn hml hok
  exact (rauto_any N pr pw wt er cv chain sp la sa av xs k hk X hr ha).mono fun _ _ h => h.any
theorem restr_o (hr : X.reads X.heap.size cv (chain.map u32V)) (ha : X.rows u32V X.heap.size av xs) (level : Int) (special : Bool) (ok : Bool) (hok : ok = (checkB N chain sp la sa xs && resB2 la sa level special)) :
    Calls Try.prog 18 #[.agg #[.int .i64 N, .int .u32 pr, .int .i64 pw, cv, .int .u32 (sp : Int), .int .i64 wt, .int .u32 er], .agg #[.int .i64 la, .bool sa, av], .int .i64 level, .bool special] X (EltOwn ok level special (resRows la.toNat level.toNat special xs) X) := by
  subst hok
  exact (restr_any N pr pw wt er cv chain sp la sa av xs level special X hr ha).mono fun _ _ h => h.own
theorem rrestr_e (hr : X.reads X.heap.size cv (chain.map u32V)) (ha : X.rows u32V X.heap.size av xs) (level : Int) (special : Bool) (ok : Bool) (hok : ok = (checkB N chain sp la sa xs && resB2 la sa level special)) :
    Calls Try.prog 30 #[.agg #[.int .i64 N, .int .u32 pr, .int .i64 pw, cv, .int .u32 (sp : Int), .int .i64 wt, .int .u32 er], .agg #[.int .i64 la, .bool sa, av], .int .i64 level, .bool special] X (EltAny ok level special (resRows la.toNat level.toNat special xs) X) := by
  subst hok
  exact (rrestr_any N pr pw wt er cv chain sp la sa av xs level special X hr ha).mono fun _ _ h => h.any
theorem ints_o (hr : X.reads X.heap.size cv (chain.map u32V)) (level : Int) (special : Bool) (lw : Value) (l : List Int) (hl : X.reads X.heap.size lw (l.map i64V)) (ok : Bool) (hok : ok = intsB N chain sp level special l) :
    Calls Try.prog 13 #[.agg #[.int .i64 N, .int .u32 pr, .int .i64 pw, cv, .int .u32 (sp : Int), .int .i64 wt, .int .u32 er], .int .i64 level, .bool special, lw] X (EltOwn ok level special (intRows (modl chain sp level.toNat special) l) X) := by
  subst hok
  exact (fromIntsO_any N pr pw wt er cv chain sp level special lw l X hr hl).mono fun _ _ h => h.own
theorem rints_e (hr : X.reads X.heap.size cv (chain.map u32V)) (level : Int) (special : Bool) (lw : Value) (l : List Int) (hl : X.reads X.heap.size lw (l.map i64V)) (hlb : ∀ x ∈ l, -9223372036854775808 ≤ x ∧ x ≤ 9223372036854775807) (ok : Bool) (hok : ok = intsB N chain sp level special l) :
    Calls Try.prog 26 #[.agg #[.int .i64 N, .int .u32 pr, .int .i64 pw, cv, .int .u32 (sp : Int), .int .i64 wt, .int .u32 er], .int .i64 level, .bool special, lw] X (EltAny ok level special (intRows (modl chain sp level.toNat special) l) X) := by
  subst hok
  exact (rfromInts_any N pr pw wt er cv chain sp level special lw l X hr hl hlb).mono fun _ _ h => h.any
theorem check_e (hr : X.reads X.heap.size cv (chain.map u32V)) (ha : X.rows u32V X.heap.size av xs) (ec : Int) (hec : ec = errI (checkB N chain sp la sa xs)) :
    Calls Try.prog 22 #[.agg #[.int .i64 N, .int .u32 pr, .int .i64 pw, cv, .int .u32 (sp : Int), .int .i64 wt, .int .u32 er], .agg #[.int .i64 la, .bool sa, av]] X fun e w' => e = .returned (.int .i64 ec) ∧ Below X.heap.size X w' := by
  subst hec
  exact (checkE N pr pw wt er cv chain sp la sa av xs X hr ha).mono fun _ _ h => h
theorem rcheck_e (hr : X.reads X.heap.size cv (chain.map u32V)) (ha : X.rows u32V X.heap.size av xs) (ec : Int) (hec : ec = errI (checkB N chain sp la sa xs)) :
    Calls Try.prog 31 #[.agg #[.int .i64 N, .int .u32 pr, .int .i64 pw, cv, .int .u32 (sp : Int), .int .i64 wt, .int .u32 er], .agg #[.int .i64 la, .bool sa, av]] X fun e w' => e = .returned (.int .i64 ec) ∧ Below X.heap.size X w' := by
  subst hec
  exact (rcheck_any N pr pw wt er cv chain sp la sa av xs X hr ha).mono fun _ _ h => h
end
end Go.Proofs.Ytkjlfjnncdkmlaa.G

/- Drawn regions: what is waited for by way of another operation may be thought to be waited for directly. -/

/- Walks: the law RingSums. -/
namespace Go.Proofs.Ytkjlfjnncdkmlaa.G
set_option linter.all false
open Go.RowKit Go.Shelf Go.BigFrame
attribute [local go_sem] Oper.semAt_some
theorem large_spec {c : RCase} (h : false = largeB c) : hugeB c.xs = false ∧ hugeB c.ys = false ∧ c.chain.length ≤ 100 ∧ c.ls.length ≤ 100 := by
  have h := h.symm
  unfold largeB at h
  simp only [Bool.or_eq_false_iff, decide_eq_false_iff_not] at h
  exact ⟨h.1.1.1, h.1.1.2, by omega, by omega⟩
end Go.Proofs.Ytkjlfjnncdkmlaa.G

/- append of a slice to an empty one without room: the old blocks stay as they are. -/
namespace Go
open RowKit Shelf
section
variable {P : Program} {o : Oper} {ops : Array Oper} {a : Act} {Q : Exit → Act → World → Prop}
theorem run_append_copy (w : World) (t ty e : TypeId) (i : TypeInfo) (z : Value) (bytes : Nat) (ht : P.underlying t = some (.slice e)) (hi : P.info? e = some i) (hz : i.zero = some z)
    (hsize : i.size = 1) (hby : i.bytes = bytes) (hzs : z.cells.size = 1) (g B : Nat) (x : Value) (news : List Value) (hr : w.reads B x news) (h1 : ∀ u ∈ news, u.oneCell' = true)
    (h63 : news.length ≤ maxLen) (hbytes : news.length * bytes ≤ 140737488355328) :
    ∃ v' w', (Builtin.append_ #[t, t] ty #[.slice (some ⟨g, 0, none⟩) 0 0, x]).run P w = .ok v' w' ∧ Below w.heap.size w w' ∧ w'.reads w'.heap.size v' news := by
  subst hby
  have hnil : w.reads w.heap.size (.slice (some ⟨g, 0, none⟩) 0 0) [] := ⟨some ⟨g, 0, none⟩, 0, rfl, by simp, Nat.le_refl _, Nat.zero_le _, fun j u hj => by simp at hj⟩
  obtain ⟨ao, cap, rfl, hn, hz1, hmx, hc⟩ := hr
  by_cases h0 : news = []
  · subst h0
    refine ⟨.slice (some ⟨g, 0, none⟩) 0 0, w, ?_, Below.refl _ _, hnil⟩
    cases ao with
    | none => exact run_append_nothing w t t ty e i ht hi _ 0 0 (Nat.le_refl _) _ (Src.ofNil w ht cap)
    | some ad => exact run_append_nothing w t t ty e i ht hi _ 0 0 (Nat.le_refl _) _ (Src.ofSlice w ht ad 0 cap [] (by simp) (fun j u h => by simp at h) (fun u h => by cases h))
  · have hpos : 0 < news.length := List.length_pos_iff.2 h0
    cases ao with
    | none => have := hn rfl; omega
    | some ad =>
      have hcells : ∀ j u, news[j]? = some u → w.cell? (ad.add j) = some u := by
        intro j u hj
        obtain ⟨b, off, ha, _, h4⟩ := hc j u hj
        injection ha with ha
        subst ha
        have : (⟨b, off, none⟩ : Addr).add j = ⟨b, off + j, none⟩ := by unfold Addr.add; split <;> simp_all
        rw [this]; exact h4
      have hsmall : news.length ≤ 9223372036854775807 := by simp only [maxLen] at h63; omega
      have hr := run_append_grow (P := P) w t ty e i z ht hi hz ⟨g, 0, none⟩ 0 0 [] (by simp) (fun j u h => by simp at h) ad news.length cap news (by rw [hsize]; omega) hcells (by omega) (by omega) (growslice_fits (by omega) (by simpa using hbytes))
      have hge := grownCap_ge w (0 + news.length) 0 e
      have hcm2 : grownCap w (0 + news.length) 0 e ≤ maxLen := grownCap_le_maxLen w (0 + news.length) 0 e (by simpa using h63)
      refine ⟨_, _, hr, ((Below.refl _ w).drew).alloc (Nat.le_refl _) _, ?_⟩
      refine World.owns.reads (base := 0) (e := e) (n := news.length) ⟨by omega, .inr ⟨w.heap.size, grownCap w (0 + news.length) 0 e, _, (0, 0), by simp, Nat.zero_le _, heap_alloc_new w.drew _, okFz_zero _, by omega, hcm2, ?_, ?_⟩⟩
      · simp only [Nat.zero_add] at hge ⊢
        simp [size_zeroCells, hzs]
        omega
      · simp
theorem step_append_copy {w : World} {K : Act → World → Prop} (s x : Operand) (t : TypeId)
    (ho : o.op = .call { callee := .builtin .append, args := #[s, x], argTypes := #[t, t] })
    (e : TypeId) (i : TypeInfo) (z : Value) (bytes : Nat) (ht : P.underlying t = some (.slice e)) (hi : P.info? e = some i) (hz : i.zero = some z)
    (hsize : i.size = 1) (hby : i.bytes = bytes) (hzs : z.cells.size = 1) (g : Nat) (hs : a.eval s = .slice (some ⟨g, 0, none⟩) 0 0)
    (B : Nat) (xv : Value) (news : List Value) (hx : a.eval x = xv) (hr : w.reads B xv news) (h1 : ∀ u ∈ news, u.oneCell' = true)
    (h63 : news.length ≤ maxLen) (hbytes : news.length * bytes ≤ 140737488355328)
    (h : ∀ v' w', Below w.heap.size w w' → w'.reads w'.heap.size v' news → K (a.put o.dst v') w') : Oper.wp P o a w K Q := by
  obtain ⟨v', w', hrun, h2, h3⟩ := run_append_copy (P := P) w t o.type e i z bytes ht hi hz hsize hby hzs g B xv news hr h1 h63 hbytes
  unfold Oper.wp execOp
  simp only [ho, resolve, invoke, builtin, Sem.run_bind, Sem.run_pure, Result.andThen_ok, List.map_toArray, List.map_cons, List.map_nil, hs, hx, hrun]
  exact h v' w' h2 h3
end
end Go

/- What the reading of an argument tells of its value. -/

/- What the reading of an argument tells of its value: slices of integers, and slices of these. -/
namespace Go
open RowKit ChangeShapes
section
variable {H : Type} {enc : TypeId × Value → H} {P : Program} {w : World} {held : Bool} {fuel : Nat} {t e q : TypeId} {cs : List Value} {x : DataW H × List MemPlace}
theorem addr_none {a : Addr} {v : Value} {w : World} (h : w.cell? (a.add 0) = some v) : ∃ b off, a = ⟨b, off, none⟩ ∧ b < w.heap.size := by
  obtain ⟨b, off, spot⟩ := a
  obtain rfl : spot = none := by
    have := World.cell?_spot h
    simpa [Addr.add] using this
  exact ⟨b, off, rfl, by have := World.block_lt_of_cell? w _ h; simpa [Addr.add] using this⟩
theorem add_none (b off j : Nat) : (⟨b, off, none⟩ : Addr).add j = ⟨b, off + j, none⟩ := by unfold Addr.add; split <;> simp_all
theorem trod_reads {k : IntKind} (ht : P.underlying t = some (.slice e)) (he : P.underlying e = some (.int k)) (hc : P.cellsOf e = 1) (h : DataW.trod enc P w 0 (fun _ => true) held fuel t cs = some x) :
    ∃ (v : Value) (zs : List Int), cs = [v] ∧ w.reads w.heap.size v (zs.map (Value.int k)) ∧ ∀ z ∈ zs, (Lit.int k z).wf = true := by
  rcases open_ints ht he hc h with ⟨hcs, _⟩ | ⟨a, len, cap, zs, hcs, _, hl, hm, hz, _, hcell, hw⟩
  · exact ⟨_, [], hcs, reads_nil _ _, by simp⟩
  · simp only [if_true] at hz
    refine ⟨_, zs.take len, hcs, ⟨some a, cap, by simp; omega, by simp, by simp; omega, hm, fun j u hj => ?_⟩, fun z hz' => hw z (List.mem_of_mem_take hz')⟩
    have hj' : j < len ∧ j < zs.length := by
      have h1 := (List.getElem?_eq_some_iff.1 hj).1
      simp at h1; omega
    obtain ⟨b, off, rfl, hb⟩ := addr_none (hcell 0 (by omega))
    have hcj := hcell j hj'.2
    rw [add_none] at hcj
    refine ⟨b, off, rfl, hb, ?_⟩
    rw [hcj]
    simp [hj'.1, hj'.2] at hj ⊢
    exact hj
theorem trod_rows {k : IntKind} (ht : P.underlying t = some (.slice e)) (he : P.underlying e = some (.slice q)) (hq : P.underlying q = some (.int k)) (ce : P.cellsOf e = 1) (cq : P.cellsOf q = 1) (h : DataW.trod enc P w 0 (fun _ => true) held fuel t cs = some x) :
    ∃ (v : Value) (rs : List (List Int)), cs = [v] ∧ w.rows (Value.int k) w.heap.size v rs ∧ ∀ r ∈ rs, ∀ z ∈ r, (Lit.int k z).wf = true := by
  rcases Deep.open_int_rows ht he hq ce cq h with ⟨hcs, _⟩ | ⟨a, len, cap, A, L, C, Z, hcs, _, hl, hm, _, hrow⟩
  · exact ⟨_, [], hcs, ⟨[], rfl, reads_nil _ _, fun i r hr => by simp at hr⟩, by simp⟩
  · refine ⟨_, (List.range len).map fun r => (Z r).take (L r), hcs, ⟨(List.range len).map fun r => .slice (A r) (L r) (C r), by simp, ?_, fun i r hr => ?_⟩, fun r hr z hz => ?_⟩
    · refine ⟨some a, cap, by simp, by simp, by simpa using hl, hm, fun j u hj => ?_⟩
      have hj' : j < len := by
        have h1 := (List.getElem?_eq_some_iff.1 hj).1
        simpa using h1
      obtain ⟨hc0, -⟩ := hrow 0 (by omega)
      obtain ⟨hcj, -⟩ := hrow j (by omega)
      obtain ⟨b, off, rfl, hb⟩ := addr_none hc0
      rw [add_none] at hcj
      refine ⟨b, off, rfl, hb, ?_⟩
      rw [hcj]
      simpa [hj'] using hj
    · have hi : i < len := by
        have h1 := (List.getElem?_eq_some_iff.1 hr).1
        simpa using h1
      obtain ⟨-, h1, h2, h3, h4, h5, h6⟩ := hrow i (by omega)
      obtain rfl : r = (Z i).take (L i) := by simpa [hi] using hr.symm
      refine ⟨.slice (A i) (L i) (C i), by simp [hi], ?_⟩
      refine ⟨A i, C i, by simp; omega, h5, by simp; omega, h2, fun j u hj => ?_⟩
      have hj' : j < L i ∧ j < (Z i).length := by
        have h1 := (List.getElem?_eq_some_iff.1 hj).1
        simp at h1; omega
      obtain ⟨a', ha'⟩ : ∃ a', A i = some a' := by
        cases hA : A i with
        | none => have := h5 hA; omega
        | some a' => exact ⟨a', rfl⟩
      obtain ⟨-, h7⟩ := h6 a' ha'
      obtain ⟨b, off, rfl, hb⟩ := addr_none (h7 0 (by omega))
      have hcj := h7 j (by omega)
      rw [add_none] at hcj
      refine ⟨b, off, ha', hb, ?_⟩
      rw [hcj]
      simp [hj'.1, hj'.2] at hj ⊢
      exact hj
    · simp only [List.mem_map, List.mem_range] at hr
      obtain ⟨i, hi, rfl⟩ := hr
      obtain ⟨-, -, -, -, h4, -⟩ := hrow i (by omega)
      exact h4 z (List.mem_of_mem_take hz)
theorem nats_of : ∀ (zs : List Int), (∀ z ∈ zs, (Lit.int .u32 z).wf = true) → ∃ l : List Nat, zs = l.map Int.ofNat ∧ ∀ q ∈ l, q < 4294967296
  | [], _ => ⟨[], rfl, by simp⟩
  | z :: zs, h => by
    obtain ⟨l, rfl, hl⟩ := nats_of zs (fun y hy => h y (by simp [hy]))
    have hb := bounds_u32 (h z (by simp))
    refine ⟨z.toNat :: l, by simp; omega, fun q hq => ?_⟩
    rcases List.mem_cons.1 hq with rfl | hq
    · omega
    · exact hl q hq
theorem rows_nats_of : ∀ (zs : List (List Int)), (∀ r ∈ zs, ∀ z ∈ r, (Lit.int .u32 z).wf = true) → ∃ l : List (List Nat), zs = l.map (·.map Int.ofNat) ∧ ∀ r ∈ l, ∀ q ∈ r, q < 4294967296
  | [], _ => ⟨[], rfl, by simp⟩
  | r :: zs, h => by
    obtain ⟨l, rfl, hl⟩ := rows_nats_of zs (fun y hy => h y (by simp [hy]))
    obtain ⟨l1, rfl, h1⟩ := nats_of r (h r (by simp))
    refine ⟨l1 :: l, by simp, fun q hq => ?_⟩
    rcases List.mem_cons.1 hq with rfl | hq
    · exact h1
    · exact hl q hq
theorem trod_reads32 (ht : P.underlying t = some (.slice e)) (he : P.underlying e = some (.int .u32)) (hc : P.cellsOf e = 1) (h : DataW.trod enc P w 0 (fun _ => true) held fuel t cs = some x) :
    ∃ (v : Value) (l : List Nat), cs = [v] ∧ w.reads w.heap.size v (l.map u32V) ∧ ∀ q ∈ l, q < 4294967296 := by
  obtain ⟨v, zs, h1, h2, h3⟩ := trod_reads ht he hc h
  obtain ⟨l, rfl, hl⟩ := nats_of zs h3
  exact ⟨v, l, h1, by rw [List.map_map] at h2; exact h2, hl⟩
theorem trod_rows32 (ht : P.underlying t = some (.slice e)) (he : P.underlying e = some (.slice q)) (hq : P.underlying q = some (.int .u32)) (ce : P.cellsOf e = 1) (cq : P.cellsOf q = 1) (h : DataW.trod enc P w 0 (fun _ => true) held fuel t cs = some x) :
    ∃ (v : Value) (rs : List (List Nat)), cs = [v] ∧ w.rows u32V w.heap.size v rs ∧ ∀ r ∈ rs, ∀ q ∈ r, q < 4294967296 := by
  obtain ⟨v, zs, h1, ⟨vs, h2, h3, h4⟩, h5⟩ := trod_rows ht he hq ce cq h
  obtain ⟨l, rfl, hl⟩ := rows_nats_of zs h5
  refine ⟨v, l, h1, ⟨vs, by simpa using h2, h3, fun i r hr => ?_⟩, hl⟩
  obtain ⟨u, hu, hur⟩ := h4 i (r.map Int.ofNat) (by simp [hr])
  exact ⟨u, hu, by rw [List.map_map] at hur; exact hur⟩
theorem trod_field {fs : Array Field} (ht : P.underlying t = some (.struct fs)) (h : DataW.trod enc P w 0 (fun _ => true) held fuel t cs = some x) (j : Nat) (f : Field) (hj : fs[j]? = some f) :
    ∃ n y, DataW.trod enc P w 0 (fun _ => true) held n f.type ((cs.drop f.offset).take (P.cellsOf f.type)) = some y := by
  obtain ⟨xs, m, rfl, hx, hl, hlen, hget⟩ := DataW.trod_struct ht h
  have hj' := (Array.getElem?_eq_some_iff.1 hj).1
  exact ⟨m, _, (hget j f hj).trans (List.getElem?_eq_getElem (by omega))⟩
end
end Go

/- What the reading of an argument tells of its value: parameters, elements, a case of the ring's laws. -/
namespace Go.Proofs.Ytkjlfjnncdkmlaa.G
set_option linter.all false
open Go.RowKit Go.WideShapes Go.ChangeShapes
theorem i64_bounds {z : Int} (h : (Lit.int .i64 z).wf = true) : -9223372036854775808 ≤ z ∧ z ≤ 9223372036854775807 := by
  have h2 : IntKind.i64.min ≤ z ∧ z ≤ IntKind.i64.max := by simpa [Lit.wf] using h
  have h3 : IntKind.i64.min = -9223372036854775808 := by decide
  have h4 : IntKind.i64.max = 9223372036854775807 := by decide
  omega
theorem i64_bounds_all {l : List Int} (h : ∀ z ∈ l, (Lit.int .i64 z).wf = true) : ∀ z ∈ l, -9223372036854775808 ≤ z ∧ z ≤ 9223372036854775807 := fun z hz => i64_bounds (h z hz)
set_option maxRecDepth 100000 in
theorem open_rcase {H : Type} {enc : TypeId × Value → H} {W : World} {base : Nat} {v : Value} {d : DataW H} {p : List MemPlace} (hv : Value.okWide Try.prog W .any base 31 v) (h : DataW.Trod enc Try.prog W 0 (fun _ => true) true 31 v d p) :
    ∃ c : RCase, v = .agg c.cells ∧ c.reads W.heap.size W ∧ (-9223372036854775808 ≤ c.num ∧ c.num ≤ 9223372036854775807) ∧ (-9223372036854775808 ≤ c.kk ∧ c.kk ≤ 9223372036854775807) ∧ (-9223372036854775808 ≤ c.level ∧ c.level ≤ 9223372036854775807) ∧ (∀ z ∈ c.ls, -9223372036854775808 ≤ z ∧ z ≤ 9223372036854775807) ∧ (∀ q ∈ c.chain, q < 4294967296) ∧ c.sp < 4294967296 ∧ (∀ r ∈ c.xs, ∀ q ∈ r, q < 4294967296) ∧ (∀ r ∈ c.ys, ∀ q ∈ r, q < 4294967296) ∧ (-9223372036854775808 ≤ c.N ∧ c.N ≤ 9223372036854775807) := by
  have c25 : Try.prog.cellsOf 25 = 7 := by kernel_rfl
  have c28 : Try.prog.cellsOf 28 = 3 := by kernel_rfl
  have c22 : Try.prog.cellsOf 22 = 1 := by kernel_rfl
  have c23 : Try.prog.cellsOf 23 = 1 := by kernel_rfl
  have c26 : Try.prog.cellsOf 26 = 1 := by kernel_rfl
  have c3 : Try.prog.cellsOf 3 = 1 := by kernel_rfl
  have c4 : Try.prog.cellsOf 4 = 1 := by kernel_rfl
  have c29 : Try.prog.cellsOf 29 = 1 := by kernel_rfl
  have c2 : Try.prog.cellsOf 2 = 1 := by kernel_rfl
  have c31 : Try.prog.cellsOf 31 = 18 := by kernel_rfl
  obtain ⟨cs, rfl, hsz⟩ := okWide_struct Try.underlying31 hv
  obtain ⟨fuel, hf⟩ := h
  have hl' : cs.toList.length = 18 := by rw [c31] at hsz; simpa using hsz
  obtain ⟨_, _, hP⟩ := trod_field Try.underlying31 hf 0 _ rfl
  obtain ⟨_, _, hA⟩ := trod_field Try.underlying31 hf 1 _ rfl
  obtain ⟨_, _, hB⟩ := trod_field Try.underlying31 hf 2 _ rfl
  obtain ⟨_, _, h3⟩ := trod_field Try.underlying31 hf 3 _ rfl
  obtain ⟨_, _, h4⟩ := trod_field Try.underlying31 hf 4 _ rfl
  obtain ⟨_, _, h5⟩ := trod_field Try.underlying31 hf 5 _ rfl
  obtain ⟨_, _, h6⟩ := trod_field Try.underlying31 hf 6 _ rfl
  obtain ⟨_, _, h7⟩ := trod_field Try.underlying31 hf 7 _ rfl
  obtain ⟨_, _, p0⟩ := trod_field Try.underlying25 hP 0 _ rfl
  obtain ⟨_, _, p1⟩ := trod_field Try.underlying25 hP 1 _ rfl
  obtain ⟨_, _, p2⟩ := trod_field Try.underlying25 hP 2 _ rfl
  obtain ⟨_, _, p3⟩ := trod_field Try.underlying25 hP 3 _ rfl
  obtain ⟨_, _, p4⟩ := trod_field Try.underlying25 hP 4 _ rfl
  obtain ⟨_, _, p5⟩ := trod_field Try.underlying25 hP 5 _ rfl
  obtain ⟨_, _, p6⟩ := trod_field Try.underlying25 hP 6 _ rfl
  obtain ⟨_, _, a0⟩ := trod_field Try.underlying28 hA 0 _ rfl
  obtain ⟨_, _, a1⟩ := trod_field Try.underlying28 hA 1 _ rfl
  obtain ⟨_, _, a2⟩ := trod_field Try.underlying28 hA 2 _ rfl
  obtain ⟨_, _, b0⟩ := trod_field Try.underlying28 hB 0 _ rfl
  obtain ⟨_, _, b1⟩ := trod_field Try.underlying28 hB 1 _ rfl
  obtain ⟨_, _, b2⟩ := trod_field Try.underlying28 hB 2 _ rfl
  obtain ⟨N, e0, -, w0⟩ := DataW.trod_int Try.underlying3 p0
  obtain ⟨pr, e1, -, -⟩ := DataW.trod_int Try.underlying22 p1
  obtain ⟨pw, e2, -, -⟩ := DataW.trod_int Try.underlying3 p2
  obtain ⟨cv, chain, e3, hchain, hcb⟩ := trod_reads32 Try.underlying23 Try.underlying22 c22 p3
  obtain ⟨sp, e4, -, w4⟩ := DataW.trod_int Try.underlying22 p4
  obtain ⟨wt, e5, -, -⟩ := DataW.trod_int Try.underlying3 p5
  obtain ⟨er, e6, -, -⟩ := DataW.trod_int Try.underlying22 p6
  obtain ⟨la, e7, -, -⟩ := DataW.trod_int Try.underlying3 a0
  obtain ⟨sa, e8, -⟩ := DataW.trod_bool Try.underlying4 a1
  obtain ⟨av, xs, e9, hxs, hxb⟩ := trod_rows32 Try.underlying26 Try.underlying23 Try.underlying22 c23 c22 a2
  obtain ⟨lb, e10, -, -⟩ := DataW.trod_int Try.underlying3 b0
  obtain ⟨sb, e11, -⟩ := DataW.trod_bool Try.underlying4 b1
  obtain ⟨bv, ys, e12, hys, hyb⟩ := trod_rows32 Try.underlying26 Try.underlying23 Try.underlying22 c23 c22 b2
  obtain ⟨num, e13, -, w13⟩ := DataW.trod_int Try.underlying2 h3
  obtain ⟨kk, e14, -, w14⟩ := DataW.trod_int Try.underlying3 h4
  obtain ⟨level, e15, -, w15⟩ := DataW.trod_int Try.underlying3 h5
  obtain ⟨special, e16, -⟩ := DataW.trod_bool Try.underlying4 h6
  obtain ⟨lw, ls, e17, hls, hlb⟩ := trod_reads Try.underlying29 Try.underlying2 c2 h7
  have hsp := bounds_u32 w4
  refine ⟨⟨N, pr, pw, wt, er, la, lb, num, kk, level, cv, av, bv, lw, sa, sb, special, chain, sp.toNat, xs, ys, ls⟩, ?_, ⟨hchain, hxs, hys, hls⟩, i64_bounds w13, i64_bounds w14, i64_bounds w15, i64_bounds_all hlb, hcb, by show sp.toNat < _; omega, hxb, hyb, i64_bounds w0⟩
  have hsn : ((sp.toNat : Nat) : Int) = sp := by omega
  unfold RCase.cells
  simp only [hsn]
  congr 1
  apply Array.ext'
  simp only [Value.cells] at e0 e1 e2 e3 e4 e5 e6 e7 e8 e9 e10 e11 e12 e13 e14 e15 e16 e17
  clear p0 p1 p2 p3 p4 p5 p6 a0 a1 a2 b0 b1 b2 h3 h4 h5 h6 h7 hP hA hB hf hv
  generalize cs.toList = l at *
  match l, hl' with
  | [k0, k1, k2, k3, k4, k5, k6, k7, k8, k9, k10, k11, k12, k13, k14, k15, k16, k17], _ =>
    simp [c25, c28, c22, c23, c26, c3, c4, c29, c2] at e0 e1 e2 e3 e4 e5 e6 e7 e8 e9 e10 e11 e12 e13 e14 e15 e16 e17
    simp [e0, e1, e2, e3, e4, e5, e6, e7, e8, e9, e10, e11, e12, e13, e14, e15, e16, e17]
end Go.Proofs.Ytkjlfjnncdkmlaa.G
