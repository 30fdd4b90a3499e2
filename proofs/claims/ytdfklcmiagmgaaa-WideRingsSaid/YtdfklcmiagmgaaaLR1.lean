/- Walks: WideRings: sums and products are commutative, associative and distributive where nothing exceeds the range; a difference undoes a sum. -/
import Derived.Test.YtdfklcmiagmgaaaWR2
import Derived.Test.YtdfklcmiagmgaaaLB1
namespace Go.Proofs.Ytdfklcmiagmgaaa
set_option linter.all false
open Go.RowKit Go.Shelf Go.WideNum
theorem keep6 {W : World} {p q r : Nat} {a b c : Bool} {s t u : ByteArray} (h1 : W.heap[p]? = some (.cells #[.bool a, .string s] 23)) (h2 : W.heap[q]? = some (.cells #[.bool b, .string t] 23)) (h3 : W.heap[r]? = some (.cells #[.bool c, .string u] 23)) :
    W.cell? ⟨p, 0, none⟩ = some (.bool a) ∧ W.cell? ⟨p, 1, none⟩ = some (.string s) ∧ W.cell? ⟨q, 0, none⟩ = some (.bool b) ∧ W.cell? ⟨q, 1, none⟩ = some (.string t) ∧ W.cell? ⟨r, 0, none⟩ = some (.bool c) ∧ W.cell? ⟨r, 1, none⟩ = some (.string u) :=
  ⟨(wide_cells h1).1, (wide_cells h1).2.1, (wide_cells h2).1, (wide_cells h2).2.1, (wide_cells h3).1, (wide_cells h3).2.1⟩
theorem field_in (n : Bool) (t : ByteArray) (i : Bool) (W : World) : (Instr.field 43 (.agg #[.bool n, .string t, .bool i]) 1).run Try.prog W = .ok (.bool i) W := by kernel_rfl
def Kept (p q r : Nat) (nx : Bool) (sx : ByteArray) (ny : Bool) (sy : ByteArray) (nz : Bool) (sz : ByteArray) (W : World) : Prop := p < W.heap.size ∧ q < W.heap.size ∧ r < W.heap.size ∧ W.cell? ⟨p, 0, none⟩ = some (.bool nx) ∧ W.cell? ⟨p, 1, none⟩ = some (.string sx) ∧ W.cell? ⟨p, 2, none⟩ = some (.bool true) ∧ W.cell? ⟨q, 0, none⟩ = some (.bool ny) ∧ W.cell? ⟨q, 1, none⟩ = some (.string sy) ∧ W.cell? ⟨q, 2, none⟩ = some (.bool true) ∧ W.cell? ⟨r, 0, none⟩ = some (.bool nz) ∧ W.cell? ⟨r, 1, none⟩ = some (.string sz) ∧ W.cell? ⟨r, 2, none⟩ = some (.bool true)
theorem h3_0 (W : World) (A B C : Obj) : (((W.alloc A).alloc B).alloc C).drew.heap[W.heap.size]? = some A :=
  (Below.heap_alloc ((W.alloc A).alloc B) C W.heap.size (by simp; omega)).trans ((Below.heap_alloc (W.alloc A) B W.heap.size (by simp)).trans (heap_alloc_new W A))
theorem h3_1 (W : World) (A B C : Obj) : (((W.alloc A).alloc B).alloc C).drew.heap[W.heap.size + 1]? = some B :=
  (Below.heap_alloc ((W.alloc A).alloc B) C (W.heap.size + 1) (by simp)).trans (alloc_last (W.alloc A) B (by simp))
theorem h3_2 (W : World) (A B C : Obj) : (((W.alloc A).alloc B).alloc C).drew.heap[W.heap.size + 1 + 1]? = some C := alloc_last ((W.alloc A).alloc B) C (by simp)
set_option maxRecDepth 100000 in
set_option maxHeartbeats 40000000 in
theorem rings_law (nx : Bool) (sx : ByteArray) (hsx : sx.size ≤ maxLen) (ny : Bool) (sy : ByteArray) (hsy : sy.size ≤ maxLen) (nz : Bool) (sz : ByteArray) (hsz : sz.size ≤ maxLen) (w : World) :
    Calls Try.prog 7 #[.agg #[.bool nx, .string sx], .agg #[.bool ny, .string sy], .agg #[.bool nz, .string sz]] w fun e w' => e = .returned (.bool true) ∧ Below w.heap.size w w' := by
  have HSH := Lib.hid shown_any
  obtain ⟨W0, hW0⟩ : ∃ W0, W0 = ((w.alloc (.cells #[.bool nx, .string sx] 23)).alloc (.cells #[.bool ny, .string sy] 23)).alloc (.cells #[.bool nz, .string sz] 23) := ⟨_, rfl⟩
  have g0 : W0.heap[w.heap.size]? = some (.cells #[.bool nx, .string sx] 23) := by rw [hW0]; repeat (first | (refine alloc_last _ _ ?_; simp only [World.size_alloc]; done) | (rw [Below.heap_alloc]; rotate_left; (simp only [World.size_alloc]; omega)))
  have g1 : W0.heap[w.heap.size + 1]? = some (.cells #[.bool ny, .string sy] 23) := by rw [hW0]; repeat (first | (refine alloc_last _ _ ?_; simp only [World.size_alloc]; done) | (rw [Below.heap_alloc]; rotate_left; (simp only [World.size_alloc]; omega)))
  have g2 : W0.heap[w.heap.size + 1 + 1]? = some (.cells #[.bool nz, .string sz] 23) := by rw [hW0]; repeat (first | (refine alloc_last _ _ ?_; simp only [World.size_alloc]; done) | (rw [Below.heap_alloc]; rotate_left; (simp only [World.size_alloc]; omega)))
  have hb0 : Below w.heap.size w W0 := by rw [hW0]; exact ((((Below.refl _ w).alloc (Nat.le_refl _) _).alloc (by simp) _).alloc (by simp; omega) _)
  have HB0 := Lib.hid hb0
  have hcx : Hid (∀ W, Below W0.heap.size W0 W → W.cell? ⟨w.heap.size, 0, none⟩ = some (.bool nx) ∧ W.cell? ⟨w.heap.size, 1, none⟩ = some (.string sx) ∧ W.cell? ⟨w.heap.size + 1, 0, none⟩ = some (.bool ny) ∧ W.cell? ⟨w.heap.size + 1, 1, none⟩ = some (.string sy) ∧ W.cell? ⟨w.heap.size + 1 + 1, 0, none⟩ = some (.bool nz) ∧ W.cell? ⟨w.heap.size + 1 + 1, 1, none⟩ = some (.string sz)) :=
    fun W hb => keep6 ((hb.block _ (lt_of_heap g0)).trans g0) ((hb.block _ (lt_of_heap g1)).trans g1) ((hb.block _ (lt_of_heap g2)).trans g2)
  have hbs : w.heap.size + 1 + 1 < W0.heap.size := lt_of_heap g2
  have HW0 := Lib.hid hW0
  obtain ⟨c0, c1, c2, c3, c4, c5⟩ := hcx.out W0 (Below.refl _ _)
  clear hb0 g0 g1 g2 hW0
  have HVX := Lib.hid (Valid_wide nx sx hsx)
  have HVY := Lib.hid (Valid_wide ny sy hsy)
  have HVZ := Lib.hid (Valid_wide nz sz hsz)
  obtain ⟨vx, hvx⟩ : ∃ b, b = validB nx sx := ⟨_, rfl⟩
  obtain ⟨vy, hvy⟩ : ∃ b, b = validB ny sy := ⟨_, rfl⟩
  obtain ⟨vz, hvz⟩ : ∃ b, b = validB nz sz := ⟨_, rfl⟩
  rw [← hvx] at HVX
  rw [← hvy] at HVY
  rw [← hvz] at HVZ
  have HX := Lib.hid hvx
  have HY := Lib.hid hvy
  have HZ := Lib.hid hvz
  clear hvx hvy hvz
  go_enter Try.func7, Try.ntmps7
  go_upto_region 1 with (fail)
  rw [← HW0.out]
  go_wp2_with fail
  obtain ⟨gr, hgr⟩ : ∃ gr, gr = (decide (300 < sx.size) || (decide (300 < sy.size) || decide (300 < sz.size))) := ⟨_, rfl⟩
  have hgreat := great3 nx sx ny sy nz sz hsx hsy hsz (W0.alloc (.cells #[.bool nx, .string sx, .bool ny, .string sy, .bool nz, .string sz] 23)) W0.heap.size (heap_alloc_new W0 _)
  rw [← hgr] at hgreat
  have hb1 : Below W0.heap.size W0 (W0.alloc (.cells #[.bool nx, .string sx, .bool ny, .string sy, .bool nz, .string sz] 23)) := (Below.refl _ W0).alloc (Nat.le_refl _) _
  (with_reducible refine hgreat.mono ?_)
  clear hgreat hgr c0 c1 c2 c3 c4 c5
  rintro e w1 ⟨rfl, rfl⟩
  generalize W0.alloc (.cells #[.bool nx, .string sx, .bool ny, .string sy, .bool nz, .string sz] 23) = w1 at hb1 ⊢
  have HB1 := Lib.hid hb1
  clear hb1
  obtain ⟨c0, c1, c2, c3, c4, c5⟩ := hcx.out w1 HB1.out
  cases gr with
  | true =>
    go_wp2_with fail
    (with_reducible refine (HSH.out _).mono ?_)
    rintro e w10 ⟨rfl, hb10⟩
    have HB10 := Lib.hid (HB0.out.trans ((below_via HB1.out hb10).mono HB0.out.size))
    clear hb10
    go_wp2
    go_ret
    exact ⟨rfl, HB10.out⟩
  | false =>
  go_wp2_with fail
  (with_reducible refine (HVX.out _).mono ?_)
  rintro e w2 ⟨rfl, hb2⟩
  have HB2 := Lib.hid (below_via HB1.out hb2)
  clear hb2 c0 c1 c2 c3 c4 c5
  obtain ⟨c0, c1, c2, c3, c4, c5⟩ := hcx.out w2 HB2.out
  cases vx with
  | false =>
    go_wp2_with fail
    (with_reducible refine (HSH.out _).mono ?_)
    rintro e w10 ⟨rfl, hb10⟩
    have HB10 := Lib.hid (HB0.out.trans ((below_via HB2.out hb10).mono HB0.out.size))
    clear hb10
    go_wp2
    go_ret
    exact ⟨rfl, HB10.out⟩
  | true =>
  go_wp2_with fail
  (with_reducible refine (HVY.out _).mono ?_)
  rintro e w3 ⟨rfl, hb3⟩
  have HB3 := Lib.hid (below_via HB2.out hb3)
  clear hb3 c0 c1 c2 c3 c4 c5
  obtain ⟨c0, c1, c2, c3, c4, c5⟩ := hcx.out w3 HB3.out
  cases vy with
  | false =>
    go_wp2_with fail
    (with_reducible refine (HSH.out _).mono ?_)
    rintro e w10 ⟨rfl, hb10⟩
    have HB10 := Lib.hid (HB0.out.trans ((below_via HB3.out hb10).mono HB0.out.size))
    clear hb10
    go_wp2
    go_ret
    exact ⟨rfl, HB10.out⟩
  | true =>
  go_wp2_with fail
  (with_reducible refine (HVZ.out _).mono ?_)
  rintro e w4 ⟨rfl, hb4⟩
  have HB4 := Lib.hid (below_via HB3.out hb4)
  clear hb4 c0 c1 c2 c3 c4 c5
  obtain ⟨c0, c1, c2, c3, c4, c5⟩ := hcx.out w4 HB4.out
  cases vz with
  | false =>
    go_wp2_with fail
    (with_reducible refine (HSH.out _).mono ?_)
    rintro e w10 ⟨rfl, hb10⟩
    have HB10 := Lib.hid (HB0.out.trans ((below_via HB4.out hb10).mono HB0.out.size))
    clear hb10
    go_wp2
    go_ret
    exact ⟨rfl, HB10.out⟩
  | true =>
  clear HVX HVY HVZ
  go_upto_region 3 with (fail)
  go_cut [7, 8, 9] (fun v7 v8 v9 wx => ∃ p q r, v7 = .pointer (some ⟨p, 0, none⟩) ∧ v8 = .pointer (some ⟨q, 0, none⟩) ∧ v9 = .pointer (some ⟨r, 0, none⟩) ∧ Hid (wx.heap[p]? = some (.cells #[.bool nx, .string sx, .bool true] 43)) ∧ Hid (wx.heap[q]? = some (.cells #[.bool ny, .string sy, .bool true] 43)) ∧ Hid (wx.heap[r]? = some (.cells #[.bool nz, .string sz, .bool true] 43)) ∧ Hid (Below W0.heap.size W0 wx))
  case first =>
    have hb4 := HB4.out
    have hs4 := hb4.size
    go_region_held3 (fun w' => (w'.cell? ⟨w.heap.size, 0, none⟩ = some (.bool nx) ∧ w'.cell? ⟨w.heap.size, 1, none⟩ = some (.string sx) ∧ w'.cell? ⟨w.heap.size + 1, 0, none⟩ = some (.bool ny) ∧ w'.cell? ⟨w.heap.size + 1, 1, none⟩ = some (.string sy) ∧ w'.cell? ⟨w.heap.size + 1 + 1, 0, none⟩ = some (.bool nz) ∧ w'.cell? ⟨w.heap.size + 1 + 1, 1, none⟩ = some (.string sz)))
      (exact hcx.out _ (by repeat (with_reducible first | apply below_drewN | apply Below.drew | refine Below.setCell ?_ (by first | (simp; done) | omega | (simp; omega)) _ | refine Below.alloc ?_ (by first | omega | (simp; done) | (simp; omega)) _ | assumption | exact Below.refl _ _)))
      (fail)
    all_goals
      go_wp2
      go_meet
      case rel =>
        refine ⟨_, _, _, rfl, rfl, rfl, ?_, ?_, ?_, ?_⟩
        · show _ = _
          first | exact h3_0 _ _ _ _ | exact h3_1 _ _ _ _ | exact h3_2 _ _ _ _
        · show _ = _
          first | exact h3_0 _ _ _ _ | exact h3_1 _ _ _ _ | exact h3_2 _ _ _ _
        · show _ = _
          first | exact h3_0 _ _ _ _ | exact h3_1 _ _ _ _ | exact h3_2 _ _ _ _
        · exact (((hb4.alloc hs4 _).alloc (by simp; omega) _).alloc (by simp; omega) _).drew
  case rest =>
    obtain ⟨p, q, r, rfl, rfl, rfl, hP, hQ, hR, hBB⟩ := hcut
    clear c0 c1 c2 c3 c4 c5 HB1 HB2 HB3 HB4
    have vx := HX.out.symm
    have vy := HY.out.symm
    have vz := HZ.out.symm
    obtain ⟨zx, ezx⟩ : ∃ z, z = zV nx sx := ⟨_, rfl⟩
    obtain ⟨zy, ezy⟩ : ∃ z, z = zV ny sy := ⟨_, rfl⟩
    obtain ⟨zz, ezz⟩ : ∃ z, z = zV nz sz := ⟨_, rfl⟩
    obtain ⟨n1, t1, i1, S1, S1', v1, z1⟩ := sumT nx sx true zx ny sy true zy vx vy (fun _ => ezx.symm) (fun _ => ezy.symm)
    obtain ⟨n2, t2, i2, P2, P2', v2, z2⟩ := prodT nx sx true zx ny sy true zy vx vy (fun _ => ezx.symm) (fun _ => ezy.symm)
    obtain ⟨n3, t3, i3, S3, -, v3, z3⟩ := sumT n1 t1 i1 (zx + zy) nz sz true zz v1 vz z1 (fun _ => ezz.symm)
    obtain ⟨n4, t4, i4, S4, -, v4, z4⟩ := sumT ny sy true zy nz sz true zz vy vz (fun _ => ezy.symm) (fun _ => ezz.symm)
    obtain ⟨n5, t5, i5, S5, -, v5, z5⟩ := sumT nx sx true zx n4 t4 i4 (zy + zz) vx v4 (fun _ => ezx.symm) z4
    obtain ⟨n6, t6, i6, P6, -, v6, z6⟩ := prodT n2 t2 i2 (zx * zy) nz sz true zz v2 vz z2 (fun _ => ezz.symm)
    obtain ⟨n7, t7, i7, P7, -, v7, z7⟩ := prodT ny sy true zy nz sz true zz vy vz (fun _ => ezy.symm) (fun _ => ezz.symm)
    obtain ⟨n8, t8, i8, P8, -, v8, z8⟩ := prodT nx sx true zx n7 t7 i7 (zy * zz) vx v7 (fun _ => ezx.symm) z7
    obtain ⟨n9, t9, i9, P9, -, v9, z9⟩ := prodT nx sx true zx n4 t4 i4 (zy + zz) vx v4 (fun _ => ezx.symm) z4
    obtain ⟨n10, t10, i10, P10, -, v10, z10⟩ := prodT nx sx true zx nz sz true zz vx vz (fun _ => ezx.symm) (fun _ => ezz.symm)
    obtain ⟨n11, t11, i11, S11, -, v11, z11⟩ := sumT n2 t2 i2 (zx * zy) n10 t10 i10 (zx * zz) v2 v10 z2 z10
    have E1 := eqT n1 t1 i1 _ n1 t1 i1 _ v1 v1 z1 z1 rfl
    have E2 := eqT n2 t2 i2 _ n2 t2 i2 _ v2 v2 z2 z2 rfl
    have E3 := eqT n3 t3 i3 _ n5 t5 i5 _ v3 v5 z3 z5 (by omega)
    have E4 := eqT n6 t6 i6 _ n8 t8 i8 _ v6 v8 z6 z8 (Int.mul_assoc _ _ _)
    have E5 := eqT n9 t9 i9 _ n11 t11 i11 _ v9 v11 z9 z11 (Int.mul_add _ _ _)
    have HSUB : Hid (i1 = true → ∀ W : World, Calls Try.prog 25 #[.agg #[.bool n1, .string t1], .agg #[.bool ny, .string sy]] W fun e w' => e = .returned (.tuple #[.agg #[.bool nx, .string sx], .int .i64 0]) ∧ Below W.heap.size W w') := fun hi W => subT nx sx ny sy n1 t1 vx vy v1 (by rw [z1 hi, ezx, ezy]) W
    clear z1 z2 z3 z4 z5 z6 z7 z8 z9 z10 z11 v1 v2 v3 v4 v5 v6 v7 v8 v9 v10 v11 vx vy vz ezx ezy ezz HX HY HZ
    obtain ⟨k0, k1, k2, -⟩ := try_cells hP.out
    obtain ⟨k3, k4, k5, -⟩ := try_cells hQ.out
    obtain ⟨k6, k7, k8, -⟩ := try_cells hR.out
    have hp := lt_of_heap hP.out
    have hq := lt_of_heap hQ.out
    have hr := lt_of_heap hR.out
    have HBB := hBB
    clear hP hQ hR hBB
    have fl1 := field_in n1 t1 i1
    have fl2 := field_in n2 t2 i2
    go_upto_region 4 with (fail)
    go_cut [79] (fun bv wx => bv = .bool false ∧ Hid (Kept p q r nx sx ny sy nz sz wx) ∧ Hid (Below W0.heap.size W0 wx))
    case first =>
      go_region_held3 (fun w' => (w'.cell? ⟨p, 0, none⟩ = some (.bool nx) ∧ w'.cell? ⟨p, 1, none⟩ = some (.string sx) ∧ w'.cell? ⟨p, 2, none⟩ = some (.bool true) ∧ w'.cell? ⟨q, 0, none⟩ = some (.bool ny) ∧ w'.cell? ⟨q, 1, none⟩ = some (.string sy) ∧ w'.cell? ⟨q, 2, none⟩ = some (.bool true) ∧ w'.cell? ⟨r, 0, none⟩ = some (.bool nz) ∧ w'.cell? ⟨r, 1, none⟩ = some (.string sz) ∧ w'.cell? ⟨r, 2, none⟩ = some (.bool true)))
        (exact ⟨k0, k1, k2, k3, k4, k5, k6, k7, k8⟩)
        (first
          | (go_simp; go_at_call 29; (with_reducible refine (S1.out _).mono ?_); rintro e w5 ⟨rfl, hb5⟩; have k0 := (hb5.cell (p := ⟨p, 0, none⟩) hp).trans k0; have k1 := (hb5.cell (p := ⟨p, 1, none⟩) hp).trans k1; have k2 := (hb5.cell (p := ⟨p, 2, none⟩) hp).trans k2; have k3 := (hb5.cell (p := ⟨q, 0, none⟩) hq).trans k3; have k4 := (hb5.cell (p := ⟨q, 1, none⟩) hq).trans k4; have k5 := (hb5.cell (p := ⟨q, 2, none⟩) hq).trans k5; have k6 := (hb5.cell (p := ⟨r, 0, none⟩) hr).trans k6; have k7 := (hb5.cell (p := ⟨r, 1, none⟩) hr).trans k7; have k8 := (hb5.cell (p := ⟨r, 2, none⟩) hr).trans k8; have hp := Nat.lt_of_lt_of_le hp hb5.size; have hq := Nat.lt_of_lt_of_le hq hb5.size; have hr := Nat.lt_of_lt_of_le hr hb5.size; have HBB : Hid (Below W0.heap.size W0 w5) := (by first | exact below_viaD HBB.out hb5 | exact below_via HBB.out hb5); clear hb5) | (go_simp; go_at_call 29; (with_reducible refine (S1'.out _).mono ?_); rintro e w5 ⟨rfl, hb5⟩; have k0 := (hb5.cell (p := ⟨p, 0, none⟩) hp).trans k0; have k1 := (hb5.cell (p := ⟨p, 1, none⟩) hp).trans k1; have k2 := (hb5.cell (p := ⟨p, 2, none⟩) hp).trans k2; have k3 := (hb5.cell (p := ⟨q, 0, none⟩) hq).trans k3; have k4 := (hb5.cell (p := ⟨q, 1, none⟩) hq).trans k4; have k5 := (hb5.cell (p := ⟨q, 2, none⟩) hq).trans k5; have k6 := (hb5.cell (p := ⟨r, 0, none⟩) hr).trans k6; have k7 := (hb5.cell (p := ⟨r, 1, none⟩) hr).trans k7; have k8 := (hb5.cell (p := ⟨r, 2, none⟩) hr).trans k8; have hp := Nat.lt_of_lt_of_le hp hb5.size; have hq := Nat.lt_of_lt_of_le hq hb5.size; have hr := Nat.lt_of_lt_of_le hr hb5.size; have HBB : Hid (Below W0.heap.size W0 w5) := (by first | exact below_viaD HBB.out hb5 | exact below_via HBB.out hb5); clear hb5) | (go_simp; go_at_call 31; (with_reducible refine (P2.out _).mono ?_); rintro e w5 ⟨rfl, hb5⟩; have k0 := (hb5.cell (p := ⟨p, 0, none⟩) hp).trans k0; have k1 := (hb5.cell (p := ⟨p, 1, none⟩) hp).trans k1; have k2 := (hb5.cell (p := ⟨p, 2, none⟩) hp).trans k2; have k3 := (hb5.cell (p := ⟨q, 0, none⟩) hq).trans k3; have k4 := (hb5.cell (p := ⟨q, 1, none⟩) hq).trans k4; have k5 := (hb5.cell (p := ⟨q, 2, none⟩) hq).trans k5; have k6 := (hb5.cell (p := ⟨r, 0, none⟩) hr).trans k6; have k7 := (hb5.cell (p := ⟨r, 1, none⟩) hr).trans k7; have k8 := (hb5.cell (p := ⟨r, 2, none⟩) hr).trans k8; have hp := Nat.lt_of_lt_of_le hp hb5.size; have hq := Nat.lt_of_lt_of_le hq hb5.size; have hr := Nat.lt_of_lt_of_le hr hb5.size; have HBB : Hid (Below W0.heap.size W0 w5) := (by first | exact below_viaD HBB.out hb5 | exact below_via HBB.out hb5); clear hb5) | (go_simp; go_at_call 31; (with_reducible refine (P2'.out _).mono ?_); rintro e w5 ⟨rfl, hb5⟩; have k0 := (hb5.cell (p := ⟨p, 0, none⟩) hp).trans k0; have k1 := (hb5.cell (p := ⟨p, 1, none⟩) hp).trans k1; have k2 := (hb5.cell (p := ⟨p, 2, none⟩) hp).trans k2; have k3 := (hb5.cell (p := ⟨q, 0, none⟩) hq).trans k3; have k4 := (hb5.cell (p := ⟨q, 1, none⟩) hq).trans k4; have k5 := (hb5.cell (p := ⟨q, 2, none⟩) hq).trans k5; have k6 := (hb5.cell (p := ⟨r, 0, none⟩) hr).trans k6; have k7 := (hb5.cell (p := ⟨r, 1, none⟩) hr).trans k7; have k8 := (hb5.cell (p := ⟨r, 2, none⟩) hr).trans k8; have hp := Nat.lt_of_lt_of_le hp hb5.size; have hq := Nat.lt_of_lt_of_le hq hb5.size; have hr := Nat.lt_of_lt_of_le hr hb5.size; have HBB : Hid (Below W0.heap.size W0 w5) := (by first | exact below_viaD HBB.out hb5 | exact below_via HBB.out hb5); clear hb5) | (go_simp; go_at_call 30; (with_reducible refine (E1.out _).mono ?_); rintro e w5 ⟨rfl, hb5⟩; have k0 := (hb5.cell (p := ⟨p, 0, none⟩) hp).trans k0; have k1 := (hb5.cell (p := ⟨p, 1, none⟩) hp).trans k1; have k2 := (hb5.cell (p := ⟨p, 2, none⟩) hp).trans k2; have k3 := (hb5.cell (p := ⟨q, 0, none⟩) hq).trans k3; have k4 := (hb5.cell (p := ⟨q, 1, none⟩) hq).trans k4; have k5 := (hb5.cell (p := ⟨q, 2, none⟩) hq).trans k5; have k6 := (hb5.cell (p := ⟨r, 0, none⟩) hr).trans k6; have k7 := (hb5.cell (p := ⟨r, 1, none⟩) hr).trans k7; have k8 := (hb5.cell (p := ⟨r, 2, none⟩) hr).trans k8; have hp := Nat.lt_of_lt_of_le hp hb5.size; have hq := Nat.lt_of_lt_of_le hq hb5.size; have hr := Nat.lt_of_lt_of_le hr hb5.size; have HBB : Hid (Below W0.heap.size W0 w5) := (by first | exact below_viaD HBB.out hb5 | exact below_via HBB.out hb5); clear hb5) | (go_simp; go_at_call 30; (with_reducible refine (E2.out _).mono ?_); rintro e w5 ⟨rfl, hb5⟩; have k0 := (hb5.cell (p := ⟨p, 0, none⟩) hp).trans k0; have k1 := (hb5.cell (p := ⟨p, 1, none⟩) hp).trans k1; have k2 := (hb5.cell (p := ⟨p, 2, none⟩) hp).trans k2; have k3 := (hb5.cell (p := ⟨q, 0, none⟩) hq).trans k3; have k4 := (hb5.cell (p := ⟨q, 1, none⟩) hq).trans k4; have k5 := (hb5.cell (p := ⟨q, 2, none⟩) hq).trans k5; have k6 := (hb5.cell (p := ⟨r, 0, none⟩) hr).trans k6; have k7 := (hb5.cell (p := ⟨r, 1, none⟩) hr).trans k7; have k8 := (hb5.cell (p := ⟨r, 2, none⟩) hr).trans k8; have hp := Nat.lt_of_lt_of_le hp hb5.size; have hq := Nat.lt_of_lt_of_le hq hb5.size; have hr := Nat.lt_of_lt_of_le hr hb5.size; have HBB : Hid (Below W0.heap.size W0 w5) := (by first | exact below_viaD HBB.out hb5 | exact below_via HBB.out hb5); clear hb5))
      all_goals
        go_wp2
        go_meet
        case rel => exact ⟨rfl, ⟨hp, hq, hr, k0, k1, k2, k3, k4, k5, k6, k7, k8⟩, HBB.out⟩
    case rest =>
      obtain ⟨rfl, hK, HBB2⟩ := hcut
      clear k0 k1 k2 k3 k4 k5 k6 k7 k8 hp hq hr HBB
      have HBB := HBB2
      clear HBB2
      obtain ⟨hp, hq, hr, k0, k1, k2, k3, k4, k5, k6, k7, k8⟩ := hK.out
      clear hK
      go_upto_region 6 with (fail)
      go_cut [105] (fun bv wx => bv = .bool false ∧ Hid (Kept p q r nx sx ny sy nz sz wx) ∧ Hid (Below W0.heap.size W0 wx))
      case first =>
        go_region_held3 (fun w' => (w'.cell? ⟨p, 0, none⟩ = some (.bool nx) ∧ w'.cell? ⟨p, 1, none⟩ = some (.string sx) ∧ w'.cell? ⟨p, 2, none⟩ = some (.bool true) ∧ w'.cell? ⟨q, 0, none⟩ = some (.bool ny) ∧ w'.cell? ⟨q, 1, none⟩ = some (.string sy) ∧ w'.cell? ⟨q, 2, none⟩ = some (.bool true) ∧ w'.cell? ⟨r, 0, none⟩ = some (.bool nz) ∧ w'.cell? ⟨r, 1, none⟩ = some (.string sz) ∧ w'.cell? ⟨r, 2, none⟩ = some (.bool true)))
          (exact ⟨k0, k1, k2, k3, k4, k5, k6, k7, k8⟩)
          (first
            | (go_simp; go_at_call 29; (with_reducible refine (S1.out _).mono ?_); rintro e w5 ⟨rfl, hb5⟩; have k0 := (hb5.cell (p := ⟨p, 0, none⟩) hp).trans k0; have k1 := (hb5.cell (p := ⟨p, 1, none⟩) hp).trans k1; have k2 := (hb5.cell (p := ⟨p, 2, none⟩) hp).trans k2; have k3 := (hb5.cell (p := ⟨q, 0, none⟩) hq).trans k3; have k4 := (hb5.cell (p := ⟨q, 1, none⟩) hq).trans k4; have k5 := (hb5.cell (p := ⟨q, 2, none⟩) hq).trans k5; have k6 := (hb5.cell (p := ⟨r, 0, none⟩) hr).trans k6; have k7 := (hb5.cell (p := ⟨r, 1, none⟩) hr).trans k7; have k8 := (hb5.cell (p := ⟨r, 2, none⟩) hr).trans k8; have hp := Nat.lt_of_lt_of_le hp hb5.size; have hq := Nat.lt_of_lt_of_le hq hb5.size; have hr := Nat.lt_of_lt_of_le hr hb5.size; have HBB : Hid (Below W0.heap.size W0 w5) := (by first | exact below_viaD HBB.out hb5 | exact below_via HBB.out hb5); clear hb5) | (go_simp; go_at_call 29; (with_reducible refine (S3.out _).mono ?_); rintro e w5 ⟨rfl, hb5⟩; have k0 := (hb5.cell (p := ⟨p, 0, none⟩) hp).trans k0; have k1 := (hb5.cell (p := ⟨p, 1, none⟩) hp).trans k1; have k2 := (hb5.cell (p := ⟨p, 2, none⟩) hp).trans k2; have k3 := (hb5.cell (p := ⟨q, 0, none⟩) hq).trans k3; have k4 := (hb5.cell (p := ⟨q, 1, none⟩) hq).trans k4; have k5 := (hb5.cell (p := ⟨q, 2, none⟩) hq).trans k5; have k6 := (hb5.cell (p := ⟨r, 0, none⟩) hr).trans k6; have k7 := (hb5.cell (p := ⟨r, 1, none⟩) hr).trans k7; have k8 := (hb5.cell (p := ⟨r, 2, none⟩) hr).trans k8; have hp := Nat.lt_of_lt_of_le hp hb5.size; have hq := Nat.lt_of_lt_of_le hq hb5.size; have hr := Nat.lt_of_lt_of_le hr hb5.size; have HBB : Hid (Below W0.heap.size W0 w5) := (by first | exact below_viaD HBB.out hb5 | exact below_via HBB.out hb5); clear hb5) | (go_simp; go_at_call 29; (with_reducible refine (S4.out _).mono ?_); rintro e w5 ⟨rfl, hb5⟩; have k0 := (hb5.cell (p := ⟨p, 0, none⟩) hp).trans k0; have k1 := (hb5.cell (p := ⟨p, 1, none⟩) hp).trans k1; have k2 := (hb5.cell (p := ⟨p, 2, none⟩) hp).trans k2; have k3 := (hb5.cell (p := ⟨q, 0, none⟩) hq).trans k3; have k4 := (hb5.cell (p := ⟨q, 1, none⟩) hq).trans k4; have k5 := (hb5.cell (p := ⟨q, 2, none⟩) hq).trans k5; have k6 := (hb5.cell (p := ⟨r, 0, none⟩) hr).trans k6; have k7 := (hb5.cell (p := ⟨r, 1, none⟩) hr).trans k7; have k8 := (hb5.cell (p := ⟨r, 2, none⟩) hr).trans k8; have hp := Nat.lt_of_lt_of_le hp hb5.size; have hq := Nat.lt_of_lt_of_le hq hb5.size; have hr := Nat.lt_of_lt_of_le hr hb5.size; have HBB : Hid (Below W0.heap.size W0 w5) := (by first | exact below_viaD HBB.out hb5 | exact below_via HBB.out hb5); clear hb5) | (go_simp; go_at_call 29; (with_reducible refine (S5.out _).mono ?_); rintro e w5 ⟨rfl, hb5⟩; have k0 := (hb5.cell (p := ⟨p, 0, none⟩) hp).trans k0; have k1 := (hb5.cell (p := ⟨p, 1, none⟩) hp).trans k1; have k2 := (hb5.cell (p := ⟨p, 2, none⟩) hp).trans k2; have k3 := (hb5.cell (p := ⟨q, 0, none⟩) hq).trans k3; have k4 := (hb5.cell (p := ⟨q, 1, none⟩) hq).trans k4; have k5 := (hb5.cell (p := ⟨q, 2, none⟩) hq).trans k5; have k6 := (hb5.cell (p := ⟨r, 0, none⟩) hr).trans k6; have k7 := (hb5.cell (p := ⟨r, 1, none⟩) hr).trans k7; have k8 := (hb5.cell (p := ⟨r, 2, none⟩) hr).trans k8; have hp := Nat.lt_of_lt_of_le hp hb5.size; have hq := Nat.lt_of_lt_of_le hq hb5.size; have hr := Nat.lt_of_lt_of_le hr hb5.size; have HBB : Hid (Below W0.heap.size W0 w5) := (by first | exact below_viaD HBB.out hb5 | exact below_via HBB.out hb5); clear hb5) | (go_simp; go_at_call 30; (with_reducible refine (E3.out _).mono ?_); rintro e w5 ⟨rfl, hb5⟩; have k0 := (hb5.cell (p := ⟨p, 0, none⟩) hp).trans k0; have k1 := (hb5.cell (p := ⟨p, 1, none⟩) hp).trans k1; have k2 := (hb5.cell (p := ⟨p, 2, none⟩) hp).trans k2; have k3 := (hb5.cell (p := ⟨q, 0, none⟩) hq).trans k3; have k4 := (hb5.cell (p := ⟨q, 1, none⟩) hq).trans k4; have k5 := (hb5.cell (p := ⟨q, 2, none⟩) hq).trans k5; have k6 := (hb5.cell (p := ⟨r, 0, none⟩) hr).trans k6; have k7 := (hb5.cell (p := ⟨r, 1, none⟩) hr).trans k7; have k8 := (hb5.cell (p := ⟨r, 2, none⟩) hr).trans k8; have hp := Nat.lt_of_lt_of_le hp hb5.size; have hq := Nat.lt_of_lt_of_le hq hb5.size; have hr := Nat.lt_of_lt_of_le hr hb5.size; have HBB : Hid (Below W0.heap.size W0 w5) := (by first | exact below_viaD HBB.out hb5 | exact below_via HBB.out hb5); clear hb5) | (go_simp; go_at_call 31; (with_reducible refine (P2.out _).mono ?_); rintro e w5 ⟨rfl, hb5⟩; have k0 := (hb5.cell (p := ⟨p, 0, none⟩) hp).trans k0; have k1 := (hb5.cell (p := ⟨p, 1, none⟩) hp).trans k1; have k2 := (hb5.cell (p := ⟨p, 2, none⟩) hp).trans k2; have k3 := (hb5.cell (p := ⟨q, 0, none⟩) hq).trans k3; have k4 := (hb5.cell (p := ⟨q, 1, none⟩) hq).trans k4; have k5 := (hb5.cell (p := ⟨q, 2, none⟩) hq).trans k5; have k6 := (hb5.cell (p := ⟨r, 0, none⟩) hr).trans k6; have k7 := (hb5.cell (p := ⟨r, 1, none⟩) hr).trans k7; have k8 := (hb5.cell (p := ⟨r, 2, none⟩) hr).trans k8; have hp := Nat.lt_of_lt_of_le hp hb5.size; have hq := Nat.lt_of_lt_of_le hq hb5.size; have hr := Nat.lt_of_lt_of_le hr hb5.size; have HBB : Hid (Below W0.heap.size W0 w5) := (by first | exact below_viaD HBB.out hb5 | exact below_via HBB.out hb5); clear hb5) | (go_simp; go_at_call 31; (with_reducible refine (P6.out _).mono ?_); rintro e w5 ⟨rfl, hb5⟩; have k0 := (hb5.cell (p := ⟨p, 0, none⟩) hp).trans k0; have k1 := (hb5.cell (p := ⟨p, 1, none⟩) hp).trans k1; have k2 := (hb5.cell (p := ⟨p, 2, none⟩) hp).trans k2; have k3 := (hb5.cell (p := ⟨q, 0, none⟩) hq).trans k3; have k4 := (hb5.cell (p := ⟨q, 1, none⟩) hq).trans k4; have k5 := (hb5.cell (p := ⟨q, 2, none⟩) hq).trans k5; have k6 := (hb5.cell (p := ⟨r, 0, none⟩) hr).trans k6; have k7 := (hb5.cell (p := ⟨r, 1, none⟩) hr).trans k7; have k8 := (hb5.cell (p := ⟨r, 2, none⟩) hr).trans k8; have hp := Nat.lt_of_lt_of_le hp hb5.size; have hq := Nat.lt_of_lt_of_le hq hb5.size; have hr := Nat.lt_of_lt_of_le hr hb5.size; have HBB : Hid (Below W0.heap.size W0 w5) := (by first | exact below_viaD HBB.out hb5 | exact below_via HBB.out hb5); clear hb5) | (go_simp; go_at_call 31; (with_reducible refine (P7.out _).mono ?_); rintro e w5 ⟨rfl, hb5⟩; have k0 := (hb5.cell (p := ⟨p, 0, none⟩) hp).trans k0; have k1 := (hb5.cell (p := ⟨p, 1, none⟩) hp).trans k1; have k2 := (hb5.cell (p := ⟨p, 2, none⟩) hp).trans k2; have k3 := (hb5.cell (p := ⟨q, 0, none⟩) hq).trans k3; have k4 := (hb5.cell (p := ⟨q, 1, none⟩) hq).trans k4; have k5 := (hb5.cell (p := ⟨q, 2, none⟩) hq).trans k5; have k6 := (hb5.cell (p := ⟨r, 0, none⟩) hr).trans k6; have k7 := (hb5.cell (p := ⟨r, 1, none⟩) hr).trans k7; have k8 := (hb5.cell (p := ⟨r, 2, none⟩) hr).trans k8; have hp := Nat.lt_of_lt_of_le hp hb5.size; have hq := Nat.lt_of_lt_of_le hq hb5.size; have hr := Nat.lt_of_lt_of_le hr hb5.size; have HBB : Hid (Below W0.heap.size W0 w5) := (by first | exact below_viaD HBB.out hb5 | exact below_via HBB.out hb5); clear hb5) | (go_simp; go_at_call 31; (with_reducible refine (P8.out _).mono ?_); rintro e w5 ⟨rfl, hb5⟩; have k0 := (hb5.cell (p := ⟨p, 0, none⟩) hp).trans k0; have k1 := (hb5.cell (p := ⟨p, 1, none⟩) hp).trans k1; have k2 := (hb5.cell (p := ⟨p, 2, none⟩) hp).trans k2; have k3 := (hb5.cell (p := ⟨q, 0, none⟩) hq).trans k3; have k4 := (hb5.cell (p := ⟨q, 1, none⟩) hq).trans k4; have k5 := (hb5.cell (p := ⟨q, 2, none⟩) hq).trans k5; have k6 := (hb5.cell (p := ⟨r, 0, none⟩) hr).trans k6; have k7 := (hb5.cell (p := ⟨r, 1, none⟩) hr).trans k7; have k8 := (hb5.cell (p := ⟨r, 2, none⟩) hr).trans k8; have hp := Nat.lt_of_lt_of_le hp hb5.size; have hq := Nat.lt_of_lt_of_le hq hb5.size; have hr := Nat.lt_of_lt_of_le hr hb5.size; have HBB : Hid (Below W0.heap.size W0 w5) := (by first | exact below_viaD HBB.out hb5 | exact below_via HBB.out hb5); clear hb5) | (go_simp; go_at_call 30; (with_reducible refine (E4.out _).mono ?_); rintro e w5 ⟨rfl, hb5⟩; have k0 := (hb5.cell (p := ⟨p, 0, none⟩) hp).trans k0; have k1 := (hb5.cell (p := ⟨p, 1, none⟩) hp).trans k1; have k2 := (hb5.cell (p := ⟨p, 2, none⟩) hp).trans k2; have k3 := (hb5.cell (p := ⟨q, 0, none⟩) hq).trans k3; have k4 := (hb5.cell (p := ⟨q, 1, none⟩) hq).trans k4; have k5 := (hb5.cell (p := ⟨q, 2, none⟩) hq).trans k5; have k6 := (hb5.cell (p := ⟨r, 0, none⟩) hr).trans k6; have k7 := (hb5.cell (p := ⟨r, 1, none⟩) hr).trans k7; have k8 := (hb5.cell (p := ⟨r, 2, none⟩) hr).trans k8; have hp := Nat.lt_of_lt_of_le hp hb5.size; have hq := Nat.lt_of_lt_of_le hq hb5.size; have hr := Nat.lt_of_lt_of_le hr hb5.size; have HBB : Hid (Below W0.heap.size W0 w5) := (by first | exact below_viaD HBB.out hb5 | exact below_via HBB.out hb5); clear hb5))
        all_goals
          go_wp2
          go_meet
          case rel => exact ⟨rfl, ⟨hp, hq, hr, k0, k1, k2, k3, k4, k5, k6, k7, k8⟩, HBB.out⟩
      case rest =>
        obtain ⟨rfl, hK, HBB2⟩ := hcut
        clear k0 k1 k2 k3 k4 k5 k6 k7 k8 hp hq hr HBB
        have HBB := HBB2
        clear HBB2
        obtain ⟨hp, hq, hr, k0, k1, k2, k3, k4, k5, k6, k7, k8⟩ := hK.out
        clear hK
        go_upto_region 8 with (fail)
        go_cut [119] (fun bv wx => bv = .bool false ∧ Hid (Kept p q r nx sx ny sy nz sz wx) ∧ Hid (Below W0.heap.size W0 wx))
        case first =>
          go_region_held3 (fun w' => (w'.cell? ⟨p, 0, none⟩ = some (.bool nx) ∧ w'.cell? ⟨p, 1, none⟩ = some (.string sx) ∧ w'.cell? ⟨p, 2, none⟩ = some (.bool true) ∧ w'.cell? ⟨q, 0, none⟩ = some (.bool ny) ∧ w'.cell? ⟨q, 1, none⟩ = some (.string sy) ∧ w'.cell? ⟨q, 2, none⟩ = some (.bool true) ∧ w'.cell? ⟨r, 0, none⟩ = some (.bool nz) ∧ w'.cell? ⟨r, 1, none⟩ = some (.string sz) ∧ w'.cell? ⟨r, 2, none⟩ = some (.bool true)))
            (exact ⟨k0, k1, k2, k3, k4, k5, k6, k7, k8⟩)
            (first
              | (go_simp; go_at_call 29; (with_reducible refine (S4.out _).mono ?_); rintro e w5 ⟨rfl, hb5⟩; have k0 := (hb5.cell (p := ⟨p, 0, none⟩) hp).trans k0; have k1 := (hb5.cell (p := ⟨p, 1, none⟩) hp).trans k1; have k2 := (hb5.cell (p := ⟨p, 2, none⟩) hp).trans k2; have k3 := (hb5.cell (p := ⟨q, 0, none⟩) hq).trans k3; have k4 := (hb5.cell (p := ⟨q, 1, none⟩) hq).trans k4; have k5 := (hb5.cell (p := ⟨q, 2, none⟩) hq).trans k5; have k6 := (hb5.cell (p := ⟨r, 0, none⟩) hr).trans k6; have k7 := (hb5.cell (p := ⟨r, 1, none⟩) hr).trans k7; have k8 := (hb5.cell (p := ⟨r, 2, none⟩) hr).trans k8; have hp := Nat.lt_of_lt_of_le hp hb5.size; have hq := Nat.lt_of_lt_of_le hq hb5.size; have hr := Nat.lt_of_lt_of_le hr hb5.size; have HBB : Hid (Below W0.heap.size W0 w5) := (by first | exact below_viaD HBB.out hb5 | exact below_via HBB.out hb5); clear hb5) | (go_simp; go_at_call 31; (with_reducible refine (P9.out _).mono ?_); rintro e w5 ⟨rfl, hb5⟩; have k0 := (hb5.cell (p := ⟨p, 0, none⟩) hp).trans k0; have k1 := (hb5.cell (p := ⟨p, 1, none⟩) hp).trans k1; have k2 := (hb5.cell (p := ⟨p, 2, none⟩) hp).trans k2; have k3 := (hb5.cell (p := ⟨q, 0, none⟩) hq).trans k3; have k4 := (hb5.cell (p := ⟨q, 1, none⟩) hq).trans k4; have k5 := (hb5.cell (p := ⟨q, 2, none⟩) hq).trans k5; have k6 := (hb5.cell (p := ⟨r, 0, none⟩) hr).trans k6; have k7 := (hb5.cell (p := ⟨r, 1, none⟩) hr).trans k7; have k8 := (hb5.cell (p := ⟨r, 2, none⟩) hr).trans k8; have hp := Nat.lt_of_lt_of_le hp hb5.size; have hq := Nat.lt_of_lt_of_le hq hb5.size; have hr := Nat.lt_of_lt_of_le hr hb5.size; have HBB : Hid (Below W0.heap.size W0 w5) := (by first | exact below_viaD HBB.out hb5 | exact below_via HBB.out hb5); clear hb5) | (go_simp; go_at_call 31; (with_reducible refine (P2.out _).mono ?_); rintro e w5 ⟨rfl, hb5⟩; have k0 := (hb5.cell (p := ⟨p, 0, none⟩) hp).trans k0; have k1 := (hb5.cell (p := ⟨p, 1, none⟩) hp).trans k1; have k2 := (hb5.cell (p := ⟨p, 2, none⟩) hp).trans k2; have k3 := (hb5.cell (p := ⟨q, 0, none⟩) hq).trans k3; have k4 := (hb5.cell (p := ⟨q, 1, none⟩) hq).trans k4; have k5 := (hb5.cell (p := ⟨q, 2, none⟩) hq).trans k5; have k6 := (hb5.cell (p := ⟨r, 0, none⟩) hr).trans k6; have k7 := (hb5.cell (p := ⟨r, 1, none⟩) hr).trans k7; have k8 := (hb5.cell (p := ⟨r, 2, none⟩) hr).trans k8; have hp := Nat.lt_of_lt_of_le hp hb5.size; have hq := Nat.lt_of_lt_of_le hq hb5.size; have hr := Nat.lt_of_lt_of_le hr hb5.size; have HBB : Hid (Below W0.heap.size W0 w5) := (by first | exact below_viaD HBB.out hb5 | exact below_via HBB.out hb5); clear hb5) | (go_simp; go_at_call 31; (with_reducible refine (P10.out _).mono ?_); rintro e w5 ⟨rfl, hb5⟩; have k0 := (hb5.cell (p := ⟨p, 0, none⟩) hp).trans k0; have k1 := (hb5.cell (p := ⟨p, 1, none⟩) hp).trans k1; have k2 := (hb5.cell (p := ⟨p, 2, none⟩) hp).trans k2; have k3 := (hb5.cell (p := ⟨q, 0, none⟩) hq).trans k3; have k4 := (hb5.cell (p := ⟨q, 1, none⟩) hq).trans k4; have k5 := (hb5.cell (p := ⟨q, 2, none⟩) hq).trans k5; have k6 := (hb5.cell (p := ⟨r, 0, none⟩) hr).trans k6; have k7 := (hb5.cell (p := ⟨r, 1, none⟩) hr).trans k7; have k8 := (hb5.cell (p := ⟨r, 2, none⟩) hr).trans k8; have hp := Nat.lt_of_lt_of_le hp hb5.size; have hq := Nat.lt_of_lt_of_le hq hb5.size; have hr := Nat.lt_of_lt_of_le hr hb5.size; have HBB : Hid (Below W0.heap.size W0 w5) := (by first | exact below_viaD HBB.out hb5 | exact below_via HBB.out hb5); clear hb5) | (go_simp; go_at_call 29; (with_reducible refine (S11.out _).mono ?_); rintro e w5 ⟨rfl, hb5⟩; have k0 := (hb5.cell (p := ⟨p, 0, none⟩) hp).trans k0; have k1 := (hb5.cell (p := ⟨p, 1, none⟩) hp).trans k1; have k2 := (hb5.cell (p := ⟨p, 2, none⟩) hp).trans k2; have k3 := (hb5.cell (p := ⟨q, 0, none⟩) hq).trans k3; have k4 := (hb5.cell (p := ⟨q, 1, none⟩) hq).trans k4; have k5 := (hb5.cell (p := ⟨q, 2, none⟩) hq).trans k5; have k6 := (hb5.cell (p := ⟨r, 0, none⟩) hr).trans k6; have k7 := (hb5.cell (p := ⟨r, 1, none⟩) hr).trans k7; have k8 := (hb5.cell (p := ⟨r, 2, none⟩) hr).trans k8; have hp := Nat.lt_of_lt_of_le hp hb5.size; have hq := Nat.lt_of_lt_of_le hq hb5.size; have hr := Nat.lt_of_lt_of_le hr hb5.size; have HBB : Hid (Below W0.heap.size W0 w5) := (by first | exact below_viaD HBB.out hb5 | exact below_via HBB.out hb5); clear hb5) | (go_simp; go_at_call 30; (with_reducible refine (E5.out _).mono ?_); rintro e w5 ⟨rfl, hb5⟩; have k0 := (hb5.cell (p := ⟨p, 0, none⟩) hp).trans k0; have k1 := (hb5.cell (p := ⟨p, 1, none⟩) hp).trans k1; have k2 := (hb5.cell (p := ⟨p, 2, none⟩) hp).trans k2; have k3 := (hb5.cell (p := ⟨q, 0, none⟩) hq).trans k3; have k4 := (hb5.cell (p := ⟨q, 1, none⟩) hq).trans k4; have k5 := (hb5.cell (p := ⟨q, 2, none⟩) hq).trans k5; have k6 := (hb5.cell (p := ⟨r, 0, none⟩) hr).trans k6; have k7 := (hb5.cell (p := ⟨r, 1, none⟩) hr).trans k7; have k8 := (hb5.cell (p := ⟨r, 2, none⟩) hr).trans k8; have hp := Nat.lt_of_lt_of_le hp hb5.size; have hq := Nat.lt_of_lt_of_le hq hb5.size; have hr := Nat.lt_of_lt_of_le hr hb5.size; have HBB : Hid (Below W0.heap.size W0 w5) := (by first | exact below_viaD HBB.out hb5 | exact below_via HBB.out hb5); clear hb5))
          all_goals
            go_wp2
            go_meet
            case rel => exact ⟨rfl, ⟨hp, hq, hr, k0, k1, k2, k3, k4, k5, k6, k7, k8⟩, HBB.out⟩
        case rest =>
          obtain ⟨rfl, hK, HBB2⟩ := hcut
          clear k0 k1 k2 k3 k4 k5 k6 k7 k8 hp hq hr HBB
          have HBB := HBB2
          clear HBB2
          obtain ⟨hp, hq, hr, k0, k1, k2, k3, k4, k5, k6, k7, k8⟩ := hK.out
          clear hK
          go_wp2_with fail
          (with_reducible refine (S1.out _).mono ?_)
          rintro e w6 ⟨rfl, hb6⟩
          have HB6 := Lib.hid (below_via (below_via HBB.out hb6) ((Below.refl w6.heap.size w6).alloc (Nat.le_refl _) (.cells #[.bool n1, .string t1, .bool i1] 43)))
          obtain ⟨d0, d1, d2, -⟩ := try_cells (heap_alloc_new w6 (.cells #[.bool n1, .string t1, .bool i1] 43))
          obtain ⟨c0, c1, c2, c3, c4, c5⟩ := hcx.out _ HB6.out
          clear hb6 k0 k1 k2 k3 k4 k5 k6 k7 k8
          cases i1 with
          | false =>
            go_wp2_with fail
            (with_reducible refine (HSH.out _).mono ?_)
            rintro e w10 ⟨rfl, hb10⟩
            have HB10 := Lib.hid (HB0.out.trans ((below_via HB6.out hb10).mono HB0.out.size))
            clear hb10
            go_wp2
            go_ret
            exact ⟨rfl, HB10.out⟩
          | true =>
            go_wp2_with fail
            (with_reducible refine (HSUB.out (by first | rfl | trivial) _).mono ?_)
            rintro e w8 ⟨rfl, hb8⟩
            have HB8 := Lib.hid (below_via (below_via HB6.out hb8) ((Below.refl w8.heap.size w8).alloc (Nat.le_refl _) (.cells #[.bool nx, .string sx] 23)))
            clear c0 c1 c2 c3 c4 c5 d0 d1 d2 hb8
            obtain ⟨c0, c1, c2, c3, c4, c5⟩ := hcx.out _ HB8.out
            go_wp2_with fail
            (with_reducible refine (HSH.out _).mono ?_)
            rintro e w10 ⟨rfl, hb10⟩
            have HB10 := Lib.hid (HB0.out.trans ((below_via HB8.out hb10).mono HB0.out.size))
            clear hb10
            go_wp2
            go_ret
            exact ⟨rfl, HB10.out⟩
end Go.Proofs.Ytdfklcmiagmgaaa
