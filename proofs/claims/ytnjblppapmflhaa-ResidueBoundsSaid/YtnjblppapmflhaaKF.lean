/- Wide integers: helpers and walks, in one text (KF1 KF2 KF3 KG1). -/
import Derived.Test.YtnjblppapmflhaaKDc
/- Walks: two lists of words are the same. -/
namespace Go.Proofs.Ytnjblppapmflhaa
set_option linter.all false
open Go.RowKit Go.Shelf Go.BigFrame
theorem take_eqs {α : Type} (xs ys : List α) (k : Nat) (x : α) (h : xs.take k = ys.take k) (hx : xs[k]? = some x) (hy : ys[k]? = some x) : xs.take (k + 1) = ys.take (k + 1) := by
  rw [List.take_add_one, List.take_add_one, h, hx, hy]
set_option maxHeartbeats 4000000 in
theorem samew_any (v1 v2 : Value) (xs ys : List Nat) (B1 B2 : Nat) (w : World) (h1 : w.reads B1 v1 (xs.map u32V)) (h2 : w.reads B2 v2 (ys.map u32V)) :
    Calls Try.prog 14 #[v1, v2] w fun e w' => e = .returned (.bool (decide (xs = ys))) ∧ ∃ n, w' = w.drewN n := by
  have hl1 := h1.le_map
  have hl2 := h2.le_map
  obtain ⟨a1, c1, rfl, hc1, hm1, hs1⟩ := reads_u32 h1
  obtain ⟨a2, c2, rfl, hc2, hm2, hs2⟩ := reads_u32 h2
  have HS1 := Lib.hid hs1
  have HS2 := Lib.hid hs2
  clear hs1 hs2 h1 h2
  by_cases hlen : xs.length = ys.length
  · obtain ⟨m, hm⟩ : ∃ m, m = ys.length := ⟨_, rfl⟩
    have hxm : xs.length = m := by omega
    rw [← hm, hxm]
    rw [← hm] at hl2 hc2
    rw [hxm] at hl1 hc1
    have HXM := Lib.hid hxm
    have HYM := Lib.hid hm
    clear hxm hm hlen
    go_enter Try.func14, Try.ntmps14
    go_wp2
    go_loopw [5] (fun i wx => ∃ k n : Nat, k ≤ m ∧ i = .int .i64 (k : Int) ∧ wx = w.drewN n ∧ Hid (xs.take k = ys.take k)) (fun i _ => m - (intOf i).toNat)
    case atStart => exact ⟨0, 0, Nat.zero_le _, rfl, rfl, by show _ = _; simp⟩
    case round =>
      obtain ⟨k, n0, hk, rfl, rfl, hall⟩ := hrel
      by_cases hlt : k < m
      · obtain ⟨x, hx⟩ : ∃ x, xs[k]? = some x := ⟨xs[k]'(by have := HXM.out; omega), List.getElem?_eq_getElem _⟩
        obtain ⟨y, hy⟩ : ∃ x, ys[k]? = some x := ⟨ys[k]'(by have := HYM.out; omega), List.getElem?_eq_getElem _⟩
        obtain ⟨b1, o1, rfl, _, hcx⟩ := HS1.out k x hx
        obtain ⟨b2, o2, rfl, _, hcy⟩ := HS2.out k y hy
        have HX := Lib.hid hx
        have HY := Lib.hid hy
        clear hx hy
        have i1 : (0 : Int) ≤ (k : Int) := by omega
        have i2 : (k : Int) < (m : Int) := by omega
        by_cases hxy : x = y
        · subst hxy
          have hb : ((x : Int) != (x : Int)) = false := by simp
          go_upto_region 6 with (fail)
          go_quiet (fail)
          go_wp2
          go_roundw
          case rel => exact ⟨k + 1, _, by omega, by go_num, rfl, take_eqs _ _ _ _ hall.out HX.out HY.out⟩
          case measure => simp [intOf]; omega
        · have hb : ((x : Int) != (y : Int)) = true := by rw [bne_iff_ne]; omega
          go_upto_region 6 with (fail)
          go_quiet (fail)
          go_wp2
          go_ret
          refine ⟨ret_bool ?_, _, World.drewN_drewN _ _ _⟩
          symm
          rw [decide_eq_false_iff_not]
          intro e
          have h3 := HX.out
          rw [e, HY.out] at h3
          exact hxy (by simpa using h3.symm)
      · obtain rfl : k = m := by omega
        have h2 := hall.out
        rw [List.take_of_length_le (by have := HXM.out; omega), List.take_of_length_le (by have := HYM.out; omega)] at h2
        have HH := Lib.hid h2
        clear h2 hall
        go_wp2
        go_ret
        exact ⟨ret_bool (by simp [HH.out]), _, rfl⟩
  · obtain ⟨m, hm⟩ : ∃ m, m = ys.length := ⟨_, rfl⟩
    obtain ⟨l, hl⟩ : ∃ l, l = xs.length := ⟨_, rfl⟩
    have HF : Hid (decide (xs = ys) = false) := by
      show _ = _
      rw [decide_eq_false_iff_not]
      intro e
      exact hlen (by rw [e])
    have hb : ((l : Int) != (m : Int)) = true := by rw [bne_iff_ne]; omega
    rw [← hm, ← hl]
    rw [← hl] at hl1 hc1
    rw [← hm] at hl2 hc2
    clear hm hl HS1 HS2 hlen
    go_enter Try.func14, Try.ntmps14
    go_wp2
    go_ret
    exact ⟨ret_bool HF.out.symm, 0, rfl⟩
end Go.Proofs.Ytnjblppapmflhaa

/- Plain: the systems 3, 5, 7 and 3, 5. -/
namespace Go.Proofs.Ytnjblppapmflhaa
set_option linter.all false
open Go.RowKit Go.Shelf Go.WideNum PN
theorem prime3 : PrimeP 3 := ⟨by omega, .inl (by simp [sml])⟩
theorem prime5 : PrimeP 5 := ⟨by omega, .inl (by simp [sml])⟩
theorem prime7 : PrimeP 7 := ⟨by omega, .inl (by simp [sml])⟩
theorem sys357 : SysP [3, 5, 7] := by
  refine ⟨by simp, by simp, ?_⟩
  intro i hi p hp
  match i, hi, hp with
  | 0, _, hp => obtain rfl : 3 = p := by simpa using hp
                exact ⟨by omega, by omega, by simp, prime3⟩
  | 1, _, hp => obtain rfl : 5 = p := by simpa using hp
                exact ⟨by omega, by omega, by simp, prime5⟩
  | 2, _, hp => obtain rfl : 7 = p := by simpa using hp
                exact ⟨by omega, by omega, by simp, prime7⟩
  | n + 3, hi, _ => exact absurd hi (by simp)
theorem sys35 : SysP [3, 5] := by
  refine ⟨by simp, by simp, ?_⟩
  intro i hi p hp
  match i, hi, hp with
  | 0, _, hp => obtain rfl : 3 = p := by simpa using hp
                exact ⟨by omega, by omega, by simp, prime3⟩
  | 1, _, hp => obtain rfl : 5 = p := by simpa using hp
                exact ⟨by omega, by omega, by simp, prime5⟩
  | n + 2, hi, _ => exact absurd hi (by simp)
theorem nosys353 : ¬ SysP [3, 5, 3] := fun h => by
  have := (h.2.2 2 (by simp) 3 rfl).2.2.1
  simp at this
theorem rowP3 (ps : List Nat) (a b c x y z : Nat) (h1 : x < a) (h2 : y < b) (h3 : z < c) : RowP [a, b, c] [x, y, z] := by
  refine ⟨rfl, ?_⟩
  intro i p r hp hr
  match i, hp, hr with
  | 0, hp, hr => simp at hp hr; omega
  | 1, hp, hr => simp at hp hr; omega
  | 2, hp, hr => simp at hp hr; omega
  | n + 3, hp, _ => simp at hp
theorem join357 : joinZ [3, 5, 7] [1, 0, 6] = -50 := by
  have h1 := crtN_ok sys357.sep (rowP3 [] 3 5 7 1 0 6 (by omega) (by omega) (by omega))
  have h2 : IsCrt [3, 5, 7] [1, 0, 6] 55 := by
    refine ⟨by decide, ?_⟩
    intro i p r hp hr
    match i, hp, hr with
    | 0, hp, hr => simp at hp hr; subst hp; subst hr; exact ⟨18, by omega⟩
    | 1, hp, hr => simp at hp hr; subst hp; subst hr; exact ⟨11, by omega⟩
    | 2, hp, hr => simp at hp hr; subst hp; subst hr; exact ⟨7, by omega⟩
    | n + 3, hp, _ => simp at hp
  unfold joinZ
  have e := IsCrt.uniq (ps := [3, 5, 7]) (rs := [1, 0, 6]) sys357.sep rfl h1 h2
  rw [e]
  decide
theorem join357b : joinZ [3, 5, 7] [1, 2, 3] = 52 := by
  have h1 := crtN_ok sys357.sep (rowP3 [] 3 5 7 1 2 3 (by omega) (by omega) (by omega))
  have h2 : IsCrt [3, 5, 7] [1, 2, 3] 52 := by
    refine ⟨by decide, ?_⟩
    intro i p r hp hr
    match i, hp, hr with
    | 0, hp, hr => simp at hp hr; subst hp; subst hr; exact ⟨17, by omega⟩
    | 1, hp, hr => simp at hp hr; subst hp; subst hr; exact ⟨10, by omega⟩
    | 2, hp, hr => simp at hp hr; subst hp; subst hr; exact ⟨7, by omega⟩
    | n + 3, hp, _ => simp at hp
  unfold joinZ
  have e := IsCrt.uniq (ps := [3, 5, 7]) (rs := [1, 2, 3]) sys357.sep rfl h1 h2
  rw [e]
  decide
theorem prod357 : prodL [3, 5, 7] = 105 := by decide
theorem res357 : splitF [3, 5, 7] (zN 52) (zT 52) = ([1, 2, 3], 0) := by
  have h := z_valid (show InR 52 from inR_small (by omega))
  unfold splitF
  rw [h.1, if_pos rfl, show zV (zN 52) (zT 52) = 52 from h.2]
  decide
theorem inv27 : invN 2 7 = 4 := by
  have := invN_spec (a := 2) (n := 7) (by omega) (by omega) (by omega) (by decide)
  omega
theorem drop357 : dropF [3, 5, 7] [1, 2, 3] true = ([1, 2], 3, 0) := by
  unfold dropF dropD
  rw [if_pos rfl, join357b]
  decide
theorem scale357 : scaleF [3, 5, 7] [1, 2, 3] 2 true = ([2, 3], 0) := by
  unfold scaleF scaleD scaleE
  rw [if_pos rfl, join357b, show 2 % lastP [3, 5, 7] = 2 by decide, show lastP [3, 5, 7] = 7 by decide, inv27]
  decide
theorem ok357 (a b c : Nat) (h1 : a < 3) (h2 : b < 5) (h3 : c < 7) : (true = true ↔ RowP [3, 5, 7] [a, b, c]) := ⟨fun _ => rowP3 [] 3 5 7 a b c h1 h2 h3, fun _ => rfl⟩
end Go.Proofs.Ytnjblppapmflhaa

/- Walks: what the law shows. -/
namespace Go.Proofs.Ytnjblppapmflhaa
set_option linter.all false
open Go.RowKit Go.Shelf Go.WideNum PN
theorem lit3 (W : World) (a b c : Nat) : (W.alloc (.cells #[.int .u32 (a : Int), .int .u32 (b : Int), .int .u32 (c : Int)] 23)).reads (W.heap.size + 1) (.slice (some ⟨W.heap.size, 0, none⟩) 3 3) ([a, b, c].map u32V) :=
  reads_alloc_new W ([a, b, c].map u32V) 23 3 (by simp) (by decide)
theorem lit2 (W : World) (a b : Nat) : (W.alloc (.cells #[.int .u32 (a : Int), .int .u32 (b : Int)] 23)).reads (W.heap.size + 1) (.slice (some ⟨W.heap.size, 0, none⟩) 2 2) ([a, b].map u32V) :=
  reads_alloc_new W ([a, b].map u32V) 23 2 (by simp) (by decide)
theorem new3 (W : World) (a b c : Nat) (ha : a < 4294967296) (hb : b < 4294967296) (hc : c < 4294967296) (ok : Bool) (hok : ok = true ↔ SysP [a, b, c]) :
    Calls Try.prog 19 #[.slice (some ⟨W.heap.size, 0, none⟩) 3 3] (W.alloc (.cells #[.int .u32 (a : Int), .int .u32 (b : Int), .int .u32 (c : Int)] 23)) (NewRet (W.alloc (.cells #[.int .u32 (a : Int), .int .u32 (b : Int), .int .u32 (c : Int)] 23)) [a, b, c] ok) :=
  New_any [a, b, c] _ _ ((lit3 W a b c).mono (by simp)) (by intro p hp; simp at hp; omega) ok hok
theorem keepA {W : World} {p j : Nat} {v : Value} (h : W.cell? ⟨p, j, none⟩ = some v) (hl : p < W.heap.size) (o : Obj) : (W.alloc o).cell? ⟨p, j, none⟩ = some v :=
  (((Below.refl W.heap.size W).alloc (Nat.le_refl _) o).cell (p := ⟨p, j, none⟩) hl).trans h
theorem same3 (a b c : Nat) (W : World) (v : Value) (h : W.reads W.heap.size v ([a, b, c].map u32V)) :
    Calls Try.prog 14 #[v, .slice (some ⟨W.heap.size, 0, none⟩) 3 3] (W.alloc (.cells #[.int .u32 (a : Int), .int .u32 (b : Int), .int .u32 (c : Int)] 23)) fun e w' => e = .returned (.bool true) ∧ Below W.heap.size W w' := by
  refine (samew_any v _ [a, b, c] [a, b, c] _ _ _ (h.below ((Below.refl W.heap.size W).alloc (Nat.le_refl _) _)) (lit3 W a b c)).mono ?_
  rintro e w' ⟨rfl, n, rfl⟩
  refine ⟨by simp, ?_⟩
  exact below_drewN ((Below.refl W.heap.size W).alloc (Nat.le_refl _) _) _
theorem same2 (a b : Nat) (W : World) (v : Value) (h : W.reads W.heap.size v ([a, b].map u32V)) :
    Calls Try.prog 14 #[v, .slice (some ⟨W.heap.size, 0, none⟩) 2 2] (W.alloc (.cells #[.int .u32 (a : Int), .int .u32 (b : Int)] 23)) fun e w' => e = .returned (.bool true) ∧ Below W.heap.size W w' := by
  refine (samew_any v _ [a, b] [a, b] _ _ _ (h.below ((Below.refl W.heap.size W).alloc (Nat.le_refl _) _)) (lit2 W a b)).mono ?_
  rintro e w' ⟨rfl, n, rfl⟩
  refine ⟨by simp, ?_⟩
  exact below_drewN ((Below.refl W.heap.size W).alloc (Nat.le_refl _) _) _
set_option maxRecDepth 100000 in
set_option maxHeartbeats 8000000 in
theorem shown_any (w : World) : Calls Try.prog 9 #[] w fun e w' => e = .returned (.bool true) ∧ Below w.heap.size w w' := by
  have HN1 : Hid (∀ W : World, Calls Try.prog 19 #[.slice (some ⟨W.heap.size, 0, none⟩) 3 3] (W.alloc (.cells #[.int .u32 3, .int .u32 5, .int .u32 7] 23)) (NewRet (W.alloc (.cells #[.int .u32 3, .int .u32 5, .int .u32 7] 23)) [3, 5, 7] true)) := fun W => new3 W 3 5 7 (by omega) (by omega) (by omega) true ⟨fun _ => sys357, fun _ => rfl⟩
  have HN2 : Hid (∀ W : World, Calls Try.prog 19 #[.slice (some ⟨W.heap.size, 0, none⟩) 3 3] (W.alloc (.cells #[.int .u32 3, .int .u32 5, .int .u32 3] 23)) (NewRet (W.alloc (.cells #[.int .u32 3, .int .u32 5, .int .u32 3] 23)) [3, 5, 3] false)) := fun W => new3 W 3 5 3 (by omega) (by omega) (by omega) false ⟨fun h => (by cases h), fun h => absurd h nosys353⟩
  have HSP : Hid (∀ (b : Nat) (W : World), SysAt W b [3, 5, 7] → Calls Try.prog 20 #[.pointer (some ⟨b, 0, none⟩), .agg #[.bool (zN 52), .string (zT 52)]] W (RowE W [1, 2, 3] 0)) := fun b W h => by
    have := Split_any b [3, 5, 7] (zN 52) (zT 52) (z_size (inR_small (by omega))) W h sys357
    rwa [res357] at this
  have HJ : Hid (∀ (b : Nat) (W : World), SysAt W b [3, 5, 7] → Calls Try.prog 21 #[.pointer (some ⟨b, 0, none⟩), .slice (some ⟨W.heap.size, 0, none⟩) 3 3] (W.alloc (.cells #[.int .u32 1, .int .u32 0, .int .u32 6] 23)) (FormE (W.alloc (.cells #[.int .u32 1, .int .u32 0, .int .u32 6] 23)) (-50) 0)) := fun b W h => by
    have := Join_any b [3, 5, 7] [1, 0, 6] _ (W.alloc (.cells #[.int .u32 1, .int .u32 0, .int .u32 6] 23)) (h.alloc _) sys357 ((lit3 W 1 0 6).mono (by simp)) true (ok357 1 0 6 (by omega) (by omega) (by omega))
    rwa [if_pos rfl, if_pos rfl, join357] at this
  have HD : Hid (∀ (b : Nat) (W : World), SysAt W b [3, 5, 7] → Calls Try.prog 12 #[.pointer (some ⟨b, 0, none⟩), .slice (some ⟨W.heap.size, 0, none⟩) 3 3] (W.alloc (.cells #[.int .u32 1, .int .u32 2, .int .u32 3] 23)) (DropE (W.alloc (.cells #[.int .u32 1, .int .u32 2, .int .u32 3] 23)) [1, 2] 3 0)) := fun b W h => by
    have := Drop_any b [3, 5, 7] [1, 2, 3] _ (W.alloc (.cells #[.int .u32 1, .int .u32 2, .int .u32 3] 23)) (h.alloc _) sys357 ((lit3 W 1 2 3).mono (by simp)) true (ok357 1 2 3 (by omega) (by omega) (by omega))
    rwa [drop357] at this
  have HC : Hid (∀ (b : Nat) (W : World), SysAt W b [3, 5, 7] → Calls Try.prog 15 #[.pointer (some ⟨b, 0, none⟩), .slice (some ⟨W.heap.size, 0, none⟩) 3 3, .int .u32 2] (W.alloc (.cells #[.int .u32 1, .int .u32 2, .int .u32 3] 23)) (RowE (W.alloc (.cells #[.int .u32 1, .int .u32 2, .int .u32 3] 23)) [2, 3] 0)) := fun b W h => by
    have := Scale_any b [3, 5, 7] [1, 2, 3] _ 2 (by omega) (W.alloc (.cells #[.int .u32 1, .int .u32 2, .int .u32 3] 23)) (h.alloc _) sys357 ((lit3 W 1 2 3).mono (by simp)) true (ok357 1 2 3 (by omega) (by omega) (by omega))
    rwa [scale357] at this
  have HO : Hid (∀ (n : Int) (W : World), -1000 < n → n < 1000 → Calls Try.prog 37 #[.int .i64 n] W fun e w' => e = .returned (.agg #[.bool (zN n), .string (zT n)]) ∧ Below W.heap.size W w') := fun n W h1 h2 => Of_z n (by omega) (by omega) W
  have HW3 : Hid (∀ (W : World) (v : Value), W.reads W.heap.size v ([1, 2, 3].map u32V) → Calls Try.prog 14 #[v, .slice (some ⟨W.heap.size, 0, none⟩) 3 3] (W.alloc (.cells #[.int .u32 1, .int .u32 2, .int .u32 3] 23)) fun e w' => e = .returned (.bool true) ∧ Below W.heap.size W w') := fun W v h => same3 1 2 3 W v h
  have HW2 : Hid (∀ (W : World) (v : Value), W.reads W.heap.size v ([1, 2].map u32V) → Calls Try.prog 14 #[v, .slice (some ⟨W.heap.size, 0, none⟩) 2 2] (W.alloc (.cells #[.int .u32 1, .int .u32 2] 23)) fun e w' => e = .returned (.bool true) ∧ Below W.heap.size W w') := fun W v h => same2 1 2 W v h
  have HW2b : Hid (∀ (W : World) (v : Value), W.reads W.heap.size v ([2, 3].map u32V) → Calls Try.prog 14 #[v, .slice (some ⟨W.heap.size, 0, none⟩) 2 2] (W.alloc (.cells #[.int .u32 2, .int .u32 3] 23)) fun e w' => e = .returned (.bool true) ∧ Below W.heap.size W w') := fun W v h => same2 2 3 W v h
  go_enter Try.func9, Try.ntmps9
  go_wp2_with fail
  (with_reducible refine (HN1.out _).mono ?_)
  rintro e w1 ⟨hb1, he1, hs1⟩
  subst he1
  obtain ⟨b, hbb⟩ : ∃ b, b = (w.alloc (.cells #[.int .u32 3, .int .u32 5, .int .u32 7] 23)).heap.size := ⟨_, rfl⟩
  rw [← hbb] at hs1 ⊢
  have B1 : Hid (Below w.heap.size w w1) := below_via ((Below.refl w.heap.size w).alloc (Nat.le_refl _) _) hb1
  have S1 := Lib.hid hs1
  clear hb1 hs1 hbb
  go_wp2_with fail
  (with_reducible refine (HN2.out _).mono ?_)
  rintro e w2 ⟨hb2, he2⟩
  subst he2
  have hb12 := below_via ((Below.refl w1.heap.size w1).alloc (Nat.le_refl _) _) hb2
  have B2 := Lib.hid (below_via B1.out hb12)
  have S2 := Lib.hid (S1.out.below hb12)
  clear hb2 hb12 S1 B1
  go_wp2_with fail
  (with_reducible refine (HO.out 52 _ (by omega) (by omega)).mono ?_)
  rintro e w3 ⟨rfl, hb3⟩
  have B3 := Lib.hid (below_via B2.out hb3)
  have S3 := Lib.hid (S2.out.below hb3)
  clear hb3 S2 B2
  go_wp2_with fail
  (with_reducible refine (HSP.out _ _ S3.out).mono ?_)
  rintro e w4 ⟨r, rfl, hr, hb4⟩
  have B4 := Lib.hid (below_via B3.out hb4)
  have S4 := Lib.hid (S3.out.below hb4)
  have R4 : Hid (w4.reads w4.heap.size r ([1, 2, 3].map u32V)) := hr.reads
  obtain ⟨ra, rc, rfl, -⟩ := reads_u32 R4.out
  clear hb4 S3 B3 hr
  go_wp2_with fail
  (with_reducible refine (HJ.out _ _ S4.out).mono ?_)
  rintro e w5 ⟨rfl, hb5⟩
  have hb45 := below_via ((Below.refl w4.heap.size w4).alloc (Nat.le_refl _) _) hb5
  have B5 := Lib.hid (below_via B4.out hb45)
  have S5 := Lib.hid (S4.out.below hb45)
  have R5 := Lib.hid ((R4.out.below hb45).mono hb45.size)
  clear hb5 hb45 S4 B4 R4
  go_upto_region 7 with (fail)
  obtain ⟨p, hp⟩ : ∃ p, p = w5.heap.size := ⟨_, rfl⟩
  obtain ⟨zn, hzn⟩ : ∃ z, z = zN (-50) := ⟨_, rfl⟩
  obtain ⟨zt, hzt⟩ : ∃ z, z = zT (-50) := ⟨_, rfl⟩
  rw [← hzn, ← hzt]
  have ZN := Lib.hid hzn
  have ZT := Lib.hid hzt
  have hab : Below w5.heap.size w5 (w5.alloc (.cells #[.bool zn, .string zt] 38)) := (Below.refl _ _).alloc (Nat.le_refl _) _
  have hg : (w5.alloc (.cells #[.bool zn, .string zt] 38)).heap[p]? = some (.cells #[.bool zn, .string zt] 38) := by rw [hp]; exact heap_alloc_new w5 _
  rw [← hp]
  clear hzn hzt hp
  generalize w5.alloc (.cells #[.bool zn, .string zt] 38) = w6 at hab hg ⊢
  have B6 := Lib.hid (below_via B5.out hab)
  have S6 := Lib.hid (S5.out.below hab)
  have R6 := Lib.hid ((R5.out.below hab).mono hab.size)
  have P6 := Lib.hid hg
  clear hab hg S5 B5 R5
  go_wp2_with fail
  (with_reducible refine (HD.out _ _ S6.out).mono ?_)
  rintro e w7 ⟨l, rfl, hl, hb7⟩
  have hb67 := below_via ((Below.refl w6.heap.size w6).alloc (Nat.le_refl _) _) hb7
  have B7 := Lib.hid (below_via B6.out hb67)
  have S7 := Lib.hid (S6.out.below hb67)
  have R7 := Lib.hid ((R6.out.below hb67).mono hb67.size)
  have P7 := Lib.hid ((hb67.block _ (lt_of_heap P6.out)).trans P6.out)
  have L7 : Hid (w7.reads w7.heap.size l ([1, 2].map u32V)) := hl.reads
  obtain ⟨la, lc, rfl, -⟩ := reads_u32 L7.out
  clear hb7 hb67 S6 B6 R6 P6 hl
  go_wp2_with fail
  (with_reducible refine (HC.out _ _ S7.out).mono ?_)
  rintro e w8 ⟨k, rfl, hk, hb8⟩
  have hb78 := below_via ((Below.refl w7.heap.size w7).alloc (Nat.le_refl _) _) hb8
  have B8 := Lib.hid (below_via B7.out hb78)
  have S8 := Lib.hid (S7.out.below hb78)
  have R8 := Lib.hid ((R7.out.below hb78).mono hb78.size)
  have P8 := Lib.hid ((hb78.block _ (lt_of_heap P7.out)).trans P7.out)
  have L8 := Lib.hid ((L7.out.below hb78).mono hb78.size)
  have K8 : Hid (w8.reads w8.heap.size k ([2, 3].map u32V)) := hk.reads
  obtain ⟨ka, kc, rfl, -⟩ := reads_u32 K8.out
  clear hb8 hb78 S7 B7 R7 P7 L7 hk
  go_upto_region 9 with (fail)
  obtain ⟨c0, c1, -⟩ := wide_cells P8.out
  have l0 := lt_of_heap P8.out
  obtain ⟨n1, hn1⟩ : ∃ z, z = zN 105 := ⟨_, rfl⟩
  obtain ⟨t1, ht1⟩ : ∃ z, z = zT 105 := ⟨_, rfl⟩
  have HO1 : Hid (∀ W : World, Calls Try.prog 37 #[.int .i64 105] W fun e w' => e = .returned (.agg #[.bool n1, .string t1]) ∧ Below W.heap.size W w') := fun W => by
    rw [hn1, ht1]; exact HO.out 105 W (by omega) (by omega)
  have HO2 : Hid (∀ W : World, Calls Try.prog 37 #[.int .i64 (-50)] W fun e w' => e = .returned (.agg #[.bool zn, .string zt]) ∧ Below W.heap.size W w') := fun W => by
    rw [ZN.out, ZT.out]; exact HO.out (-50) W (by omega) (by omega)
  have HP : Hid (∀ W : World, SysAt W b [3, 5, 7] → Calls Try.prog 27 #[.pointer (some ⟨b, 0, none⟩)] W fun e w' => e = .returned (.agg #[.bool n1, .string t1]) ∧ Below W.heap.size W w') := fun W h => by
    have := Product_any b [3, 5, 7] W h
    rw [prod357] at this
    rw [hn1, ht1]
    exact this
  clear hn1 ht1
  go_region_held3 (fun w' => w'.cell? ⟨p, 0, none⟩ = some (.bool zn) ∧ w'.cell? ⟨p, 1, none⟩ = some (.string zt))
    (first | exact ⟨c0, c1⟩ | (refine ⟨?_, ?_⟩ <;> assumption) | exact ⟨keepA c0 l0 _, keepA c1 l0 _⟩)
    (first
      | (go_simp; go_at_call 27; (with_reducible refine (HP.out _ (by with_unfolding_all exact S8.out)).mono ?_); rintro e w9 ⟨rfl, hb9⟩; replace hb9 : Below w8.heap.size w8 w9 := (by first | exact hb9 | exact below_viaD (Below.refl _ _) hb9); have B9 := Lib.hid (below_via B8.out hb9); have R9 := Lib.hid ((R8.out.below hb9).mono hb9.size); have L9 := Lib.hid ((L8.out.below hb9).mono hb9.size); have K9 := Lib.hid ((K8.out.below hb9).mono hb9.size); replace c0 := (hb9.cell (p := ⟨p, 0, none⟩) l0).trans c0; replace c1 := (hb9.cell (p := ⟨p, 1, none⟩) l0).trans c1; replace l0 := Nat.lt_of_lt_of_le l0 hb9.size; clear hb9 S8 B8 R8 L8 K8)
      | (go_simp; go_at_call 37; (with_reducible refine (HO1.out _).mono ?_); rintro e w10 ⟨rfl, hb9⟩; replace hb9 : Below w9.heap.size w9 w10 := (by first | exact hb9 | exact below_viaD (Below.refl _ _) hb9); have B10 := Lib.hid (below_via B9.out hb9); have R10 := Lib.hid ((R9.out.below hb9).mono hb9.size); have L10 := Lib.hid ((L9.out.below hb9).mono hb9.size); have K10 := Lib.hid ((K9.out.below hb9).mono hb9.size); replace c0 := (hb9.cell (p := ⟨p, 0, none⟩) l0).trans c0; replace c1 := (hb9.cell (p := ⟨p, 1, none⟩) l0).trans c1; replace l0 := Nat.lt_of_lt_of_le l0 hb9.size; clear hb9 B9 R9 L9 K9)
      | (go_simp; go_at_call 14; (with_reducible refine (HW3.out _ _ (by with_unfolding_all exact R10.out)).mono ?_); rintro e w11 ⟨rfl, hb9⟩; replace hb9 : Below w10.heap.size w10 w11 := (by first | exact hb9 | exact below_viaD (Below.refl _ _) hb9); have B11 := Lib.hid (below_via B10.out hb9); have L11 := Lib.hid ((L10.out.below hb9).mono hb9.size); have K11 := Lib.hid ((K10.out.below hb9).mono hb9.size); replace c0 := (hb9.cell (p := ⟨p, 0, none⟩) l0).trans c0; replace c1 := (hb9.cell (p := ⟨p, 1, none⟩) l0).trans c1; replace l0 := Nat.lt_of_lt_of_le l0 hb9.size; clear hb9 B10 R10 L10 K10)
      | (go_simp; go_at_call 37; (with_reducible refine (HO2.out _).mono ?_); rintro e w12 ⟨rfl, hb9⟩; replace hb9 : Below w11.heap.size w11 w12 := (by first | exact hb9 | exact below_viaD (Below.refl _ _) hb9); have B12 := Lib.hid (below_via B11.out hb9); have L12 := Lib.hid ((L11.out.below hb9).mono hb9.size); have K12 := Lib.hid ((K11.out.below hb9).mono hb9.size); replace c0 := (hb9.cell (p := ⟨p, 0, none⟩) l0).trans c0; replace c1 := (hb9.cell (p := ⟨p, 1, none⟩) l0).trans c1; replace l0 := Nat.lt_of_lt_of_le l0 hb9.size; clear hb9 B11 L11 K11)
      | (go_simp; go_at_call 14; (with_reducible refine (HW2.out _ _ (by with_unfolding_all exact L12.out)).mono ?_); rintro e w13 ⟨rfl, hb9⟩; replace hb9 : Below w12.heap.size w12 w13 := (by first | exact hb9 | exact below_viaD (Below.refl _ _) hb9); have B13 := Lib.hid (below_via B12.out hb9); have K13 := Lib.hid ((K12.out.below hb9).mono hb9.size); replace c0 := (hb9.cell (p := ⟨p, 0, none⟩) l0).trans c0; replace c1 := (hb9.cell (p := ⟨p, 1, none⟩) l0).trans c1; replace l0 := Nat.lt_of_lt_of_le l0 hb9.size; clear hb9 B12 L12 K12)
      | (go_simp; go_at_call 14; (with_reducible refine (HW2b.out _ _ (by with_unfolding_all exact K13.out)).mono ?_); rintro e w14 ⟨rfl, hb9⟩; replace hb9 : Below w13.heap.size w13 w14 := (by first | exact hb9 | exact below_viaD (Below.refl _ _) hb9); have B14 := Lib.hid (below_via B13.out hb9); replace c0 := (hb9.cell (p := ⟨p, 0, none⟩) l0).trans c0; replace c1 := (hb9.cell (p := ⟨p, 1, none⟩) l0).trans c1; replace l0 := Nat.lt_of_lt_of_le l0 hb9.size; clear hb9 B13 K13))
  go_wp2
  go_ret
  exact ⟨rfl, B14.out⟩
end Go.Proofs.Ytnjblppapmflhaa

/- Plain: the integer of a row of residues. -/
namespace Go.Proofs.Ytnjblppapmflhaa
set_option linter.all false
open Go.RowKit Go.Shelf Go.WideNum PN
theorem resL_get {ps : List Nat} {x : Int} {i p r : Nat} (hp : ps[i]? = some p) (hr : (resL ps x)[i]? = some r) : r = (x % (p : Int)).toNat := by
  unfold resL at hr
  rw [List.getElem?_map, hp] at hr
  simpa using hr.symm
theorem resL_row {ps : List Nat} (hs : SysP ps) (x : Int) : RowP ps (resL ps x) := by
  refine ⟨by simp [resL], ?_⟩
  intro i p r hp hr
  have h1 := (hs.sep i p hp).1.pos
  have h2 := Int.emod_nonneg x (show (p : Int) ≠ 0 by omega)
  have h3 := Int.emod_lt_of_pos x (show (0 : Int) < p by omega)
  have h4 := resL_get hp hr
  omega
theorem balZ_mod (x m : Int) : balZ (x % m) m = balZ x m := by unfold balZ; rw [Int.emod_emod_of_dvd x (Int.dvd_refl m)]
theorem join_res {ps : List Nat} (hs : SysP ps) (x : Int) : joinZ ps (resL ps x) = balZ x (prodL ps : Nat) := by
  have hP := prodL_pos' hs.sep
  have h0 := Int.emod_nonneg x (show ((prodL ps : Nat) : Int) ≠ 0 by omega)
  have h1 := Int.emod_lt_of_pos x (show (0 : Int) < ((prodL ps : Nat) : Int) by omega)
  have h2 : IsCrt ps (resL ps x) (x % ((prodL ps : Nat) : Int)).toNat := by
    refine ⟨by omega, ?_⟩
    intro i p r hp hr
    have h3 := (hs.sep i p hp).1.pos
    have h4 := resL_get hp hr
    rw [h4]
    have h5 := Int.emod_nonneg x (show (p : Int) ≠ 0 by omega)
    unfold Cg
    rw [Int.toNat_of_nonneg h0, Int.toNat_of_nonneg h5]
    obtain ⟨c, hc⟩ := dvd_prodL (List.mem_of_getElem? hp)
    have h6 : x - x % ((prodL ps : Nat) : Int) = (p : Int) * (c * (x / ((prodL ps : Nat) : Int))) := by
      have := Int.emod_add_mul_ediv x ((prodL ps : Nat) : Int)
      rw [← Int.mul_assoc, ← Int.natCast_mul, ← hc]
      omega
    have h7 : x - x % (p : Int) = (p : Int) * (x / (p : Int)) := by
      have := Int.emod_add_mul_ediv x (p : Int)
      omega
    refine ⟨x / (p : Int) - c * (x / ((prodL ps : Nat) : Int)), ?_⟩
    rw [Int.mul_sub, ← h6, ← h7]
    omega
  unfold joinZ
  rw [IsCrt.uniq hs.sep (by simp [resL]) (crtN_ok hs.sep (resL_row hs x)) h2, Int.toNat_of_nonneg h0, balZ_mod]
theorem balZ_two (x m : Int) (h0 : 0 < m) : -m < 2 * balZ x m ∧ 2 * balZ x m ≤ m := by
  have h1 := Int.emod_nonneg x (show m ≠ 0 by omega)
  have h2 := Int.emod_lt_of_pos x h0
  unfold balZ
  split <;> omega
theorem balZ_id {x m : Int} (h0 : 0 < m) (h1 : -m < 2 * x) (h2 : 2 * x ≤ m) : balZ x m = x := by
  by_cases hx : 0 ≤ x
  · have h3 : x % m = x := Int.emod_eq_of_lt hx (by omega)
    unfold balZ
    rw [h3, if_neg (by omega)]
  · have h3 : x % m = x + m := by
      have h4 : (x + m * 1) % m = x % m := Int.add_mul_emod_self_left x m 1
      rw [← h4, Int.mul_one]
      exact Int.emod_eq_of_lt (by omega) (by omega)
    unfold balZ
    rw [h3, if_pos (by omega)]
    omega
theorem res_bal {ps : List Nat} (hs : SysP ps) (x : Int) : resL ps (balZ x (prodL ps : Nat)) = resL ps x := by
  unfold resL
  apply List.map_congr_left
  intro p hp
  have h1 : Cg p (balZ x (prodL ps : Nat)) x := (balZ_cg _ _).of_dvd (dvd_prodL hp)
  have h2 : balZ x (prodL ps : Nat) % (p : Int) = x % (p : Int) := h1.emod
  rw [h2]
/-- There and back by way of a greater system. -/
theorem back_res {ps us : List Nat} (hs : SysP ps) (hu : SysP us) (hle : prodL ps ≤ prodL us) (x : Int) : resL ps (joinZ us (resL us (joinZ ps (resL ps x)))) = resL ps x := by
  rw [join_res hu, join_res hs]
  have h0 := prodL_pos' hs.sep
  have h1 := balZ_two x (prodL ps : Nat) (by omega)
  rw [balZ_id (by omega) (by omega) (by omega), res_bal hs]
end Go.Proofs.Ytnjblppapmflhaa
