/- Walks: the law ResidueNone. -/
import Derived.Test.YtnjblppapmflhaaKN1
namespace Go.Proofs.Ytnjblppapmflhaa
set_option linter.all false
open Go.RowKit Go.Shelf Go.WideNum PN
set_option maxRecDepth 100000 in
set_option maxHeartbeats 16000000 in
theorem none_law (rs : List Nat) (nx : Bool) (sx : ByteArray) (hsx : sx.size ≤ maxLen) (rv : Value) (t : Int) (w : World) (hr : w.reads w.heap.size rv (rs.map u32V)) :
    Calls Try.prog 8 #[.agg #[.bool nx, .string sx], rv, .int .u32 t] w fun e w' => e = .returned (.bool true) ∧ Below w.heap.size w w' := by
  have HSH := Lib.hid shown_any
  obtain ⟨ra, rc, rfl, -⟩ := reads_u32 hr
  obtain ⟨rl, hrl⟩ : ∃ n, n = rs.length := ⟨_, rfl⟩
  rw [← hrl] at ⊢
  clear hr hrl
  have HN : Hid (∀ W : World, Calls Try.prog 19 #[.slice (some ⟨W.heap.size, 0, none⟩) 2 2] (W.alloc (.cells #[.int .u32 3, .int .u32 5] 23)) (NewRet (W.alloc (.cells #[.int .u32 3, .int .u32 5] 23)) [3, 5] true)) := fun W =>
    New_any [3, 5] _ _ ((lit2 W 3 5).mono (by simp)) (by intro p hp; simp at hp; omega) true ⟨fun _ => sys35, fun _ => rfl⟩
  have HCT : Hid (∀ (W : World) (b : Nat) (u : Value), SysAt W b [3, 5] → NoSys W u → Calls Try.prog 32 #[.pointer (some ⟨b, 0, none⟩), .slice (some ⟨W.heap.size, 0, none⟩) 2 2, u] (W.alloc (.cells #[.int .u32 1, .int .u32 1] 23)) fun e w' => e = .returned (.tuple #[.slice none 0 0, .int .i64 1]) ∧ Below W.heap.size W w') := fun W b u h1 h2 => by
    have hb : Below W.heap.size W (W.alloc (.cells #[.int .u32 1, .int .u32 1] 23)) := (Below.refl _ _).alloc (Nat.le_refl _) _
    refine (Convert_to b [3, 5] (.slice (some ⟨W.heap.size, 0, none⟩) 2 2) u ⟨_, _, _, rfl⟩ _ (h1.below hb) (h2.below hb)).mono ?_
    rintro e w' ⟨rfl, h3⟩
    exact ⟨rfl, below_via hb h3⟩
  obtain ⟨wb, hwb⟩ : ∃ W, W = w.alloc (.cells #[.bool nx, .string sx] 38) := ⟨_, rfl⟩
  have hbb : Below w.heap.size w wb := by rw [hwb]; exact (Below.refl _ _).alloc (Nat.le_refl _) _
  have hgb : wb.heap[w.heap.size]? = some (.cells #[.bool nx, .string sx] 38) := by rw [hwb]; exact heap_alloc_new w _
  have HBB := Lib.hid hbb
  have hcx : Hid (∀ W, Below wb.heap.size wb W → W.cell? ⟨w.heap.size, 0, none⟩ = some (.bool nx) ∧ W.cell? ⟨w.heap.size, 1, none⟩ = some (.string sx)) := fun W hb => by
    obtain ⟨a, b, -⟩ := wide_cells (wide_hold (w := wb) hgb hb)
    exact ⟨a, b⟩
  clear hbb hgb
  go_enter Try.func8, Try.ntmps8
  go_upto_region 1 with (fail)
  rw [← hwb]
  clear hwb
  go_wp2_with fail
  (with_reducible refine (HN.out _).mono ?_)
  rintro e w1 ⟨hb1, he1, hs1⟩
  subst he1
  obtain ⟨b, hbd⟩ : ∃ b, b = (wb.alloc (.cells #[.int .u32 3, .int .u32 5] 23)).heap.size := ⟨_, rfl⟩
  rw [← hbd] at hs1 ⊢
  have hb01 := below_via ((Below.refl wb.heap.size wb).alloc (Nat.le_refl _) _) hb1
  have B1 := Lib.hid (below_via HBB.out hb01)
  have D1 := Lib.hid hb01
  have S1 := Lib.hid hs1
  obtain ⟨c0, c1⟩ := hcx.out _ hb01
  clear hs1 hb1 hb01 hbd
  by_cases h3 : 300 < sx.size
  · have t3 : (300 : Int) < (sx.size : Int) := by omega
    clear h3
    go_wp2_with fail
    (with_reducible refine (HSH.out _).mono ?_)
    rintro e w3 ⟨rfl, hb3⟩
    go_wp2
    go_ret
    exact ⟨rfl, below_via B1.out hb3⟩
  have t3 : ¬ (300 : Int) < (sx.size : Int) := by omega
  clear h3
  go_upto_region 5 with (fail)
  clear c0 c1 t3
  generalize hw2 : (w1.alloc (.cells #[.slice none 0 0, .bool false, .string ⟨#[]⟩, .slice none 0 0, .bool false] 70)).alloc (.cells #[.pointer none, .pointer (some ⟨w1.heap.size, 0, none⟩)] 71) = w2
  obtain ⟨z, hz⟩ : ∃ z, z = w1.heap.size := ⟨_, rfl⟩
  have hb12 : Below w1.heap.size w1 w2 := by rw [← hw2]; exact ((Below.refl _ _).alloc (Nat.le_refl _) _).alloc (by simp) _
  have hg0 : w2.heap[z]? = some (.cells #[.slice none 0 0, .bool false, .string ⟨#[]⟩, .slice none 0 0, .bool false] 70) := by rw [← hw2, hz, Below.heap_alloc _ _ _ (by simp)]; exact heap_alloc_new w1 _
  have hg1 : w2.heap[z + 1]? = some (.cells #[.pointer none, .pointer (some ⟨z, 0, none⟩)] 71) := by rw [← hw2, hz]; exact alloc_last _ _ (by simp)
  rw [← hz]
  have HNZ : Hid (NoSys w2 (.pointer (some ⟨z, 0, none⟩))) := .inr ⟨z, rfl, hg0⟩
  have HN0 : Hid (NoSys w2 (.pointer none)) := .inl rfl
  have HLC : Hid (∀ W, Below w2.heap.size w2 W → W.cell? ⟨z + 1, 0, none⟩ = some (.pointer none) ∧ W.cell? ⟨z + 1, 1, none⟩ = some (.pointer (some ⟨z, 0, none⟩))) := fun W hb => by
    have := (hb.block _ (lt_of_heap hg1)).trans hg1
    exact ⟨by rw [cell_of_row W _ _ _ _ (0, 0) this]; rfl, by rw [cell_of_row W _ _ _ _ (0, 0) this]; rfl⟩
  have B2 := Lib.hid (below_via B1.out hb12)
  have D2 := Lib.hid (below_via D1.out hb12)
  have S2 := Lib.hid (S1.out.below hb12)
  clear hz hw2 hb12 hg0 hg1 B1 D1 S1
  go_wp2
  go_loopw [10] (fun i wx => ∃ k : Nat, k ≤ 2 ∧ i = .int .i64 (k : Int) ∧ Hid (Below w2.heap.size w2 wx)) (fun i _ => 2 - (intOf i).toNat)
  case atStart => exact ⟨0, by omega, rfl, Below.refl _ _⟩
  case round =>
    obtain ⟨k, hk, rfl, HW⟩ := hrel
    rcases (show k = 0 ∨ k = 1 ∨ k = 2 by omega) with rfl | rfl | rfl
    · obtain ⟨wo, rfl⟩ : ∃ x, x = wr := ⟨_, rfl⟩
      have hWo := HW.out
      clear HW
      obtain ⟨x0, x1⟩ := hcx.out wo (below_via D2.out hWo)
      obtain ⟨l0, l1⟩ := HLC.out wo hWo
      go_upto_region 8 with (fail)
      go_region_held3 (fun w' => w'.cell? ⟨w.heap.size, 0, none⟩ = some (.bool nx) ∧ w'.cell? ⟨w.heap.size, 1, none⟩ = some (.string sx) ∧ w'.cell? ⟨z + 1, 0, none⟩ = some (.pointer none) ∧ w'.cell? ⟨z + 1, 1, none⟩ = some (.pointer (some ⟨z, 0, none⟩)))
        (first | exact ⟨x0, x1, l0, l1⟩ | (refine ⟨?_, ?_, ?_, ?_⟩ <;> assumption))
        (first
          | (go_simp; go_at_call 20; refine (Split_no (.pointer none) nx sx _ (HN0.out.below hWo.drew)).mono ?_; rintro e w4 ⟨rfl, hb4⟩; replace hWo : Below w2.heap.size w2 w4 := (by first | exact below_via hWo hb4 | exact below_viaD hWo hb4); replace x0 := (hcx.out w4 (below_via D2.out hWo)).1; replace x1 := (hcx.out w4 (below_via D2.out hWo)).2; replace l0 := (HLC.out w4 hWo).1; replace l1 := (HLC.out w4 hWo).2; clear hb4))
      clear x0 x1
      go_wp2_with fail
      clear l0 l1
      (with_reducible refine (Join_no (.pointer none) _ ⟨_, _, _, rfl⟩ _ (HN0.out.below hWo)).mono ?_)
      rintro e w5 ⟨rfl, hb5⟩
      replace hWo := below_via hWo hb5
      clear hb5
      go_upto_region 10 with (fail)
      have hab : Below w5.heap.size w5 (w5.alloc (.cells #[.bool false, .string ⟨#[]⟩] 38)) := (Below.refl _ _).alloc (Nat.le_refl _) _
      replace hWo := below_via hWo hab
      generalize w5.alloc (.cells #[.bool false, .string ⟨#[]⟩] 38) = w6 at hWo ⊢
      clear hab
      obtain ⟨l0, l1⟩ := HLC.out w6 hWo
      go_wp2_with fail
      clear l0 l1
      (with_reducible refine (Convert_no (.pointer none) _ _ ⟨_, _, _, rfl⟩ _ (HN0.out.below hWo)).mono ?_)
      rintro e w7 ⟨rfl, hb7⟩
      replace hWo := below_via hWo hb7
      clear hb7
      obtain ⟨l0, l1⟩ := HLC.out w7 hWo
      go_wp2_with fail
      clear l0 l1
      (with_reducible refine (Drop_no (.pointer none) _ ⟨_, _, _, rfl⟩ _ (HN0.out.below hWo)).mono ?_)
      rintro e w8 ⟨rfl, hb8⟩
      replace hWo := below_via hWo hb8
      clear hb8
      obtain ⟨l0, l1⟩ := HLC.out w8 hWo
      go_wp2_with fail
      clear l0 l1
      (with_reducible refine (Scale_no (.pointer none) _ _ ⟨_, _, _, rfl⟩ _ (HN0.out.below hWo)).mono ?_)
      rintro e w9 ⟨rfl, hb9⟩
      replace hWo := below_via hWo hb9
      clear hb9
      have hba : Below w9.heap.size w9 (w9.alloc (.cells #[.int .u32 1, .int .u32 1] 23)) := (Below.refl _ _).alloc (Nat.le_refl _) _
      obtain ⟨l0, l1⟩ := HLC.out _ (below_via hWo hba)
      go_wp2_with fail
      clear l0 l1 hba
      (with_reducible refine (HCT.out w9 b (.pointer none) (S2.out.below hWo) (HN0.out.below hWo)).mono ?_)
      rintro e w10 ⟨rfl, hb10⟩
      replace hWo := below_via hWo hb10
      clear hb10
      obtain ⟨l0, l1⟩ := HLC.out w10 hWo
      go_wp2_with fail
      clear l0 l1
      (with_reducible refine (Moduli_no (.pointer none) _ (HN0.out.below hWo)).mono ?_)
      rintro e w11 ⟨rfl, hb11⟩
      replace hWo := below_via hWo hb11
      clear hb11
      obtain ⟨l0, l1⟩ := HLC.out w11 hWo
      go_wp2_with fail
      clear l0 l1
      (with_reducible refine (Product_no (.pointer none) _ (HN0.out.below hWo)).mono ?_)
      rintro e w12 ⟨rfl, hb12⟩
      replace hWo := below_via hWo hb12
      clear hb12
      go_wp2_with fail
      go_roundw
      case rel => exact ⟨1, by omega, by go_num, hWo⟩
      case measure => simp [intOf]
    · obtain ⟨wo, rfl⟩ : ∃ x, x = wr := ⟨_, rfl⟩
      have hWo := HW.out
      clear HW
      obtain ⟨x0, x1⟩ := hcx.out wo (below_via D2.out hWo)
      obtain ⟨l0, l1⟩ := HLC.out wo hWo
      go_upto_region 8 with (fail)
      go_region_held3 (fun w' => w'.cell? ⟨w.heap.size, 0, none⟩ = some (.bool nx) ∧ w'.cell? ⟨w.heap.size, 1, none⟩ = some (.string sx) ∧ w'.cell? ⟨z + 1, 0, none⟩ = some (.pointer none) ∧ w'.cell? ⟨z + 1, 1, none⟩ = some (.pointer (some ⟨z, 0, none⟩)))
        (first | exact ⟨x0, x1, l0, l1⟩ | (refine ⟨?_, ?_, ?_, ?_⟩ <;> assumption))
        (first
          | (go_simp; go_at_call 20; refine (Split_no (.pointer (some ⟨z, 0, none⟩)) nx sx _ (HNZ.out.below hWo.drew)).mono ?_; rintro e w4 ⟨rfl, hb4⟩; replace hWo : Below w2.heap.size w2 w4 := (by first | exact below_via hWo hb4 | exact below_viaD hWo hb4); replace x0 := (hcx.out w4 (below_via D2.out hWo)).1; replace x1 := (hcx.out w4 (below_via D2.out hWo)).2; replace l0 := (HLC.out w4 hWo).1; replace l1 := (HLC.out w4 hWo).2; clear hb4))
      clear x0 x1
      go_wp2_with fail
      clear l0 l1
      (with_reducible refine (Join_no (.pointer (some ⟨z, 0, none⟩)) _ ⟨_, _, _, rfl⟩ _ (HNZ.out.below hWo)).mono ?_)
      rintro e w5 ⟨rfl, hb5⟩
      replace hWo := below_via hWo hb5
      clear hb5
      go_upto_region 10 with (fail)
      have hab : Below w5.heap.size w5 (w5.alloc (.cells #[.bool false, .string ⟨#[]⟩] 38)) := (Below.refl _ _).alloc (Nat.le_refl _) _
      replace hWo := below_via hWo hab
      generalize w5.alloc (.cells #[.bool false, .string ⟨#[]⟩] 38) = w6 at hWo ⊢
      clear hab
      obtain ⟨l0, l1⟩ := HLC.out w6 hWo
      go_wp2_with fail
      clear l0 l1
      (with_reducible refine (Convert_no (.pointer (some ⟨z, 0, none⟩)) _ _ ⟨_, _, _, rfl⟩ _ (HNZ.out.below hWo)).mono ?_)
      rintro e w7 ⟨rfl, hb7⟩
      replace hWo := below_via hWo hb7
      clear hb7
      obtain ⟨l0, l1⟩ := HLC.out w7 hWo
      go_wp2_with fail
      clear l0 l1
      (with_reducible refine (Drop_no (.pointer (some ⟨z, 0, none⟩)) _ ⟨_, _, _, rfl⟩ _ (HNZ.out.below hWo)).mono ?_)
      rintro e w8 ⟨rfl, hb8⟩
      replace hWo := below_via hWo hb8
      clear hb8
      obtain ⟨l0, l1⟩ := HLC.out w8 hWo
      go_wp2_with fail
      clear l0 l1
      (with_reducible refine (Scale_no (.pointer (some ⟨z, 0, none⟩)) _ _ ⟨_, _, _, rfl⟩ _ (HNZ.out.below hWo)).mono ?_)
      rintro e w9 ⟨rfl, hb9⟩
      replace hWo := below_via hWo hb9
      clear hb9
      have hba : Below w9.heap.size w9 (w9.alloc (.cells #[.int .u32 1, .int .u32 1] 23)) := (Below.refl _ _).alloc (Nat.le_refl _) _
      obtain ⟨l0, l1⟩ := HLC.out _ (below_via hWo hba)
      go_wp2_with fail
      clear l0 l1 hba
      (with_reducible refine (HCT.out w9 b (.pointer (some ⟨z, 0, none⟩)) (S2.out.below hWo) (HNZ.out.below hWo)).mono ?_)
      rintro e w10 ⟨rfl, hb10⟩
      replace hWo := below_via hWo hb10
      clear hb10
      obtain ⟨l0, l1⟩ := HLC.out w10 hWo
      go_wp2_with fail
      clear l0 l1
      (with_reducible refine (Moduli_no (.pointer (some ⟨z, 0, none⟩)) _ (HNZ.out.below hWo)).mono ?_)
      rintro e w11 ⟨rfl, hb11⟩
      replace hWo := below_via hWo hb11
      clear hb11
      obtain ⟨l0, l1⟩ := HLC.out w11 hWo
      go_wp2_with fail
      clear l0 l1
      (with_reducible refine (Product_no (.pointer (some ⟨z, 0, none⟩)) _ (HNZ.out.below hWo)).mono ?_)
      rintro e w12 ⟨rfl, hb12⟩
      replace hWo := below_via hWo hb12
      clear hb12
      go_wp2_with fail
      go_roundw
      case rel => exact ⟨2, by omega, by go_num, hWo⟩
      case measure => simp [intOf]
    · go_wp2_with fail
      (with_reducible refine (HSH.out _).mono ?_)
      rintro e w3 ⟨rfl, hb3⟩
      go_wp2
      go_ret
      exact ⟨rfl, below_via (below_via B2.out HW.out) hb3⟩
end Go.Proofs.Ytnjblppapmflhaa
