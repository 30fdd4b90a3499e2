/- Walks: GadgetJoins. -/
import Derived.Test.YtpcpgmgpkegjlaaGK1
import Derived.Test.YtpcpgmgpkegjlaaGE2
namespace Go.Proofs.Ytpcpgmgpkegjlaa
open Go.RowKit Go.Shelf Go.BigFrame
theorem case17J {w : World} {p : Nat} {v0 v1 v2 v3 v4 v5 v6 v7 v8 v9 v10 v11 v12 v13 v14 v15 v16 : Value} {t : TypeId} {fz : Nat × Nat} (h : w.heap[p]? = some (.cells #[v0, v1, v2, v3, v4, v5, v6, v7, v8, v9, v10, v11, v12, v13, v14, v15, v16] t fz)) :
    (w.cell? ⟨p, 0, none⟩ = some v0 ∧ w.cell? ⟨p, 1, none⟩ = some v1 ∧ w.cell? ⟨p, 2, none⟩ = some v2 ∧ w.cell? ⟨p, 3, none⟩ = some v3 ∧ w.cell? ⟨p, 4, none⟩ = some v4 ∧ w.cell? ⟨p, 5, none⟩ = some v5 ∧ w.cell? ⟨p, 6, none⟩ = some v6 ∧ w.cell? ⟨p, 7, none⟩ = some v7) ∧
    (w.cell? ⟨p, 8, none⟩ = some v8 ∧ w.cell? ⟨p, 9, none⟩ = some v9 ∧ w.cell? ⟨p, 10, none⟩ = some v10) ∧ (w.cell? ⟨p, 11, none⟩ = some v11 ∧ w.cell? ⟨p, 12, none⟩ = some v12 ∧ w.cell? ⟨p, 13, none⟩ = some v13) ∧
    w.cell? ⟨p, 14, none⟩ = some v14 ∧ w.cell? ⟨p, 15, none⟩ = some v15 ∧ w.cell? ⟨p, 16, none⟩ = some v16 := by
  simp [World.cell?, h]
theorem rows_none {α : Type} (enc : α → Value) (w : World) (B : Nat) : w.rows enc B (.slice none 0 0) [] := ⟨[], rfl, reads_nil _ _, fun i r h => by simp at h⟩
theorem WeightPost.one {N : Int} {chain : List Nat} {sp : Nat} {width i : Int} {w w' : World} {e : Ending} {lv er : Int} {rs : List (List Nat)} (h : WeightPost N chain sp width i w e w')
    (h1 : lv = if weightB N chain sp width i then (chain.length : Int) else 0) (h2 : rs = if weightB N chain sp width i then weightRows chain N.toNat ((width * (i % partsI width)).toNat) ((i / partsI width).toNat) chain.length else []) (h3 : er = errI (weightB N chain sp width i)) :
    ∃ rv, e = .returned (.tuple #[.agg #[.int .i64 lv, .bool false, rv], .int .i64 er]) ∧ w'.rows u32V w'.heap.size rv rs ∧ Below w.heap.size w w' := by
  obtain ⟨h4, h5⟩ := h
  cases hb : weightB N chain sp width i
  · rw [hb] at h1 h2 h3 h4
    rw [if_neg (by decide)] at h1 h2 h4
    subst h1 h2 h3
    exact ⟨_, h4, rows_none _ _ _, h5⟩
  · rw [hb] at h1 h2 h3 h4
    rw [if_pos rfl] at h1 h2 h4
    subst h1 h2 h3
    obtain ⟨rv, h6, h7⟩ := h4
    exact ⟨rv, h6, h7, h5⟩
theorem JoinPost.one {N : Int} {chain : List Nat} {sp : Nat} {width level : Int} {ls : List (List Int)} {w w' : World} {e : Ending} {lv er : Int} {rs : List (List Nat)} (h : JoinPost N chain sp width level ls w e w')
    (h1 : lv = if joinB N chain sp width level ls then level else 0) (h2 : rs = if joinB N chain sp width level ls then joinRows chain ls N.toNat (partsI width).toNat width level.toNat else []) (h3 : er = errI (joinB N chain sp width level ls)) :
    ∃ rv, e = .returned (.tuple #[.agg #[.int .i64 lv, .bool false, rv], .int .i64 er]) ∧ w'.rows u32V w'.heap.size rv rs ∧ Below w.heap.size w w' := by
  obtain ⟨h4, h5⟩ := h
  cases hb : joinB N chain sp width level ls
  · rw [hb] at h1 h2 h3 h4
    rw [if_neg (by decide)] at h1 h2 h4
    subst h1 h2 h3
    exact ⟨_, h4, rows_none _ _ _, h5⟩
  · rw [hb] at h1 h2 h3 h4
    rw [if_pos rfl] at h1 h2 h4
    subst h1 h2 h3
    obtain ⟨rv, h6, h7⟩ := h4
    exact ⟨rv, h6, h7, h5⟩
theorem large_ls {c : Case} (h : largeB c = false) : ∀ l ∈ c.ls, l.length ≤ 100 := by
  unfold largeB at h
  simp only [Bool.or_eq_false_iff, Bool.not_eq_false'] at h
  have hs : smallL c.ls c.ls.length = true := h.2
  unfold smallL at hs
  rw [List.take_length, List.all_eq_true] at hs
  intro r hr
  simpa using hs r hr
theorem wf_bounds {z : Int} (h : (Lit.int .i64 z).wf = true) : -9223372036854775808 ≤ z ∧ z ≤ 9223372036854775807 := by
  have h2 : IntKind.i64.min ≤ z ∧ z ≤ IntKind.i64.max := by simpa [Lit.wf] using h
  have h3 : IntKind.i64.min = -9223372036854775808 := by decide
  have h4 : IntKind.i64.max = 9223372036854775807 := by decide
  omega
theorem one_i64 (l : List Int) : ∀ u ∈ l.map i64V, u.oneCell' = true := by
  intro u hu
  rw [List.mem_map] at hu
  obtain ⟨x, _, rfl⟩ := hu
  rfl
set_option maxRecDepth 100000 in
set_option maxHeartbeats 40000000 in
theorem joins_law (c : Case) (w : World) (h : c.reads w.heap.size w) (hcb : ∀ q ∈ c.chain, q < 4294967296) (hlb : ∀ l ∈ c.ls, ∀ x ∈ l, -9223372036854775808 ≤ x ∧ x ≤ 9223372036854775807) : Calls Try.prog 6 #[.agg c.cells] w fun e w' => e = .returned (.bool true) ∧ Below w.heap.size w w' := by
  obtain ⟨N, pr, pw, wt, er, width, la, lb, ix, level, cv, av, bv, lw, sa, sb, chain, sp, xs, ys, ls⟩ := c
  have hr0 : w.reads w.heap.size cv (chain.map u32V) := h.1
  have hl0 : w.rows i64V w.heap.size lw ls := h.2.2.2
  have hcb0 : ∀ q ∈ chain, q < 4294967296 := hcb
  have hlb0 : ∀ l ∈ ls, ∀ x ∈ l, -9223372036854775808 ≤ x ∧ x ≤ 9223372036854775807 := hlb
  obtain ⟨a, cap, rfl, -, -, -⟩ := reads_u32 hr0
  obtain ⟨ra, rc, rfl, hrc1, hrc2, hrs⟩ := hl0.shape
  have hlarge : largeB ⟨N, pr, pw, wt, er, width, la, lb, ix, level, .slice a chain.length cap, av, bv, .slice ra ls.length rc, sa, sb, chain, sp, xs, ys, ls⟩ = false → ∀ l ∈ ls, l.length ≤ 100 := fun h => large_ls h
  have HL : Calls Try.prog 9 #[.agg (Case.cells ⟨N, pr, pw, wt, er, width, la, lb, ix, level, .slice a chain.length cap, av, bv, .slice ra ls.length rc, sa, sb, chain, sp, xs, ys, ls⟩)] _ (LargePost _ _) := large_any ⟨N, pr, pw, wt, er, width, la, lb, ix, level, .slice a chain.length cap, av, bv, .slice ra ls.length rc, sa, sb, chain, sp, xs, ys, ls⟩ (w.alloc (.cells (Case.cells ⟨N, pr, pw, wt, er, width, la, lb, ix, level, .slice a chain.length cap, av, bv, .slice ra ls.length rc, sa, sb, chain, sp, xs, ys, ls⟩) 31)) ((h.below ((Below.refl _ w).alloc (Nat.le_refl _) _)).mono (by simp))
  unfold LargePost at HL
  obtain ⟨lg, hlg⟩ : ∃ b, b = largeB ⟨N, pr, pw, wt, er, width, la, lb, ix, level, .slice a chain.length cap, av, bv, .slice ra ls.length rc, sa, sb, chain, sp, xs, ys, ls⟩ := ⟨_, rfl⟩
  rw [← hlg] at HL hlarge
  have HLG := Lib.hid hlarge
  simp only [Case.cells] at HL ⊢
  obtain ⟨L, hL⟩ : ∃ L, L = ls.length := ⟨_, rfl⟩
  rw [← hL] at HL hrc1 hl0 ⊢
  have HLN := Lib.hid hL
  obtain ⟨W0, hW0⟩ : ∃ W0, W0 = w.alloc (.cells #[.int .i64 N, .int .u32 pr, .int .i64 pw, .slice a chain.length cap, .int .u32 (sp : Int), .int .i64 wt, .int .u32 er, .int .i64 width, .int .i64 la, .bool sa, av, .int .i64 lb, .bool sb, bv, .int .i64 ix, .int .i64 level, .slice ra L rc] 31) := ⟨_, rfl⟩
  rw [← hW0] at HL
  have hB0 : Below w.heap.size w W0 := by rw [hW0]; exact (Below.refl _ w).alloc (Nat.le_refl _) _
  have g0 : W0.heap[w.heap.size]? = some (.cells #[.int .i64 N, .int .u32 pr, .int .i64 pw, .slice a chain.length cap, .int .u32 (sp : Int), .int .i64 wt, .int .u32 er, .int .i64 width, .int .i64 la, .bool sa, av, .int .i64 lb, .bool sb, bv, .int .i64 ix, .int .i64 level, .slice ra L rc] 31) := by rw [hW0]; exact alloc_last _ _ rfl
  have hz0 := lt_of_heap g0
  have HRD : Hid (∀ W, Below W0.heap.size W0 W → W.reads W.heap.size (.slice a chain.length cap) (chain.map u32V)) := Lib.hid (fun W hb => (((hr0.below hB0).mono hB0.size).below hb).mono hb.size)
  have HRL : Hid (∀ W, Below W0.heap.size W0 W → W.rows i64V W.heap.size (.slice ra L rc) ls) := Lib.hid (fun W hb => (((hl0.below hB0).mono hB0.size).below hb).mono hb.size)
  have HRS : Hid (∀ (j : Nat) (r : List Int), ls[j]? = some r → ∃ b off b2 c2, ra = some ⟨b, off, none⟩ ∧ b < w.heap.size ∧ w.cell? ⟨b, off + j, none⟩ = some (.slice b2 r.length c2) ∧ w.reads w.heap.size (.slice b2 r.length c2) (r.map i64V)) := Lib.hid hrs
  obtain ⟨wl, hwl⟩ : ∃ x, x = if weightB N chain sp width ix then (chain.length : Int) else 0 := ⟨_, rfl⟩
  obtain ⟨wr_, hwr⟩ : ∃ x, x = if weightB N chain sp width ix then weightRows chain N.toNat ((width * (ix % partsI width)).toNat) ((ix / partsI width).toNat) chain.length else [] := ⟨_, rfl⟩
  obtain ⟨we, hwe⟩ : ∃ x, x = errI (weightB N chain sp width ix) := ⟨_, rfl⟩
  obtain ⟨jl, hjl⟩ : ∃ x, x = if joinB N chain sp width level ls then level else 0 := ⟨_, rfl⟩
  obtain ⟨jr, hjr⟩ : ∃ x, x = if joinB N chain sp width level ls then joinRows chain ls N.toNat (partsI width).toNat width level.toNat else [] := ⟨_, rfl⟩
  obtain ⟨je, hje⟩ : ∃ x, x = errI (joinB N chain sp width level ls) := ⟨_, rfl⟩
  have HWT := Lib.hid (fun W (hb : Below W0.heap.size W0 W) => (Weight_any N pr pw wt er (.slice a chain.length cap) chain sp width ix W (HRD.out W hb) hcb0).mono fun e w' h => h.one hwl hwr hwe)
  have HJN := Lib.hid (fun W (hb : Below W0.heap.size W0 W) v hv => (Join_any N pr pw wt er (.slice a chain.length cap) chain sp width level v ls W (HRD.out W hb) hcb0 hv).mono fun e w' h => h.one hjl hjr hje)
  have HRW := Lib.hid (fun W (hb : Below W0.heap.size W0 W) => (rweight_any N pr pw wt er (.slice a chain.length cap) chain sp width ix W (HRD.out W hb) hcb0).mono fun e w' h => h.one hwl hwr hwe)
  have HRJ := Lib.hid (fun (h64 : ls.length ≤ 64) W (hb : Below W0.heap.size W0 W) => (rjoin_any N pr pw wt er (.slice a chain.length cap) chain sp width level (.slice ra L rc) ls W (HRD.out W hb) hcb0 (HRL.out W hb) hlb0 h64).mono fun e w' h => h.one hjl hjr hje)
  have HSW := Lib.hid (fun (W : World) v u hv hu => same09_any wl wl false false v u wr_ wr_ W.heap.size W.heap.size W hv hu (Nat.le_refl _) (Nat.le_refl _))
  simp only [decide_true, Bool.and_self] at HSW
  have HSJ := Lib.hid (fun (W : World) v u hv hu => same09_any jl jl false false v u jr jr W.heap.size W.heap.size W hv hu (Nat.le_refl _) (Nat.le_refl _))
  simp only [decide_true, Bool.and_self] at HSJ
  have HSS := Lib.hid (fun (W : World) v (hb : Below W0.heap.size W0 W) hv => same17_any v (.slice ra L rc) ls ls W.heap.size W.heap.size W hv (HRL.out W hb))
  simp only [decide_true] at HSS
  have HGG : Hid (∀ W, Below W0.heap.size W0 W → W.heap[w.heap.size]? = some (.cells #[.int .i64 N, .int .u32 pr, .int .i64 pw, .slice a chain.length cap, .int .u32 (sp : Int), .int .i64 wt, .int .u32 er, .int .i64 width, .int .i64 la, .bool sa, av, .int .i64 lb, .bool sb, bv, .int .i64 ix, .int .i64 level, .slice ra L rc] 31)) := Lib.hid (fun W hb => (hb.block _ hz0).trans g0)
  have HG0 := Lib.hid g0
  have HW0 := Lib.hid hW0
  have HLL := Lib.hid HL
  clear h hcb hr0 hcb0 hlb hlb0 g0 hW0 HL hlg hlarge hL hrs hl0 hwl hwr hwe hjl hjr hje
  cases lg
  case true =>
    go_enter Try.func6, Try.ntmps6
    go_upto_region 1 with (fail)
    rw [← HW0.out]
    obtain ⟨⟨k0, k1, k2, k3, k4, k5, k6, k7⟩, ⟨ka0, ka1, ka2⟩, ⟨kb0, kb1, kb2⟩, ki, klev, kl⟩ := case17J HG0.out
    go_wp2_with fail
    refine HLL.out.mono ?_
    rintro e w1 ⟨rfl, hb1⟩
    go_wp2_with fail
    refine (awake_any w1).mono ?_
    rintro e wz ⟨rfl, hbz⟩
    go_wp2
    go_ret
    exact ⟨rfl, hB0.trans ((hb1.trans (hbz.mono hb1.size)).mono hB0.size)⟩
  have HL1 := HLG.out rfl
  have HLR := Lib.hid HL1
  clear HL1
  go_enter Try.func6, Try.ntmps6
  go_upto_region 1 with (fail)
  rw [← HW0.out]
  obtain ⟨⟨k0, k1, k2, k3, k4, k5, k6, k7⟩, ⟨ka0, ka1, ka2⟩, ⟨kb0, kb1, kb2⟩, ki, klev, kl⟩ := case17J HG0.out
  go_wp2_with fail
  refine HLL.out.mono ?_
  rintro e w1 ⟨rfl, hb1⟩
  clear k0 k1 k2 k3 k4 k5 k6 k7 ka0 ka1 ka2 kb0 kb1 kb2 ki klev kl
  have hs1 := hb1.size
  have g1 := HGG.out w1 hb1
  have l1 : w.heap.size < w1.heap.size := by omega
  obtain ⟨⟨-, -, -, -, -, -, -, -⟩, ⟨-, -, -⟩, ⟨-, -, -⟩, -, -, kl⟩ := case17J g1
  clear g1
  by_cases h64 : 64 < L
  · have t64 : (64 : Int) < (L : Int) := by omega
    go_wp2_with fail
    refine (awake_any w1).mono ?_
    rintro e wz ⟨rfl, hbz⟩
    go_wp2
    go_ret
    exact ⟨rfl, hB0.trans ((hb1.trans (hbz.mono hb1.size)).mono hB0.size)⟩
  have h64i : ¬ (64 : Int) < (L : Int) := by omega
  obtain ⟨i0, hi0, hiz, hiz1, hizb⟩ := info_parts infoI64
  obtain ⟨i1, hi1, hi1z, hi1z1, hi1b⟩ := info_parts infoI64s
  have HRJ' := Lib.hid (HRJ.out (by rw [← HLN.out]; omega))
  clear HRJ
  go_upto_region 4 with (fail)
  clear kl
  go_wp2_with fail
  go_loopw [3, 4] (fun vv ii wr => ∃ k : Nat, k ≤ L ∧ ii = .int .i64 (k : Int) ∧ Hid (wr.rowsO i64V w1.heap.size 45 2 vv (ls.take k)) ∧ Below w1.heap.size w1 wr) (fun _ ii _ => L - (intOf ii).toNat)
  case atStart => exact ⟨0, Nat.zero_le _, rfl, World.rowsO_nil _ _ _ _, Below.refl _ _⟩
  case round =>
    obtain ⟨k, hk, rfl, hO, hBr⟩ := hrel
    have hsr := hBr.size
    have hBX : Below W0.heap.size W0 wr := hb1.trans (hBr.mono hs1)
    have hBw : Below w.heap.size w wr := hB0.trans (hBX.mono hB0.size)
    have gX := HGG.out wr hBX
    have lX : w.heap.size < wr.heap.size := lt_of_heap gX
    obtain ⟨⟨-, -, -, -, -, -, -, -⟩, ⟨-, -, -⟩, ⟨-, -, -⟩, -, -, kl⟩ := case17J gX
    obtain ⟨oa, oc, rfl⟩ := hO.out.open_
    have hlk : (ls.take k).length = k := by rw [List.length_take, ← HLN.out]; omega
    rw [hlk] at hO ⊢
    by_cases hlt : k < L
    · obtain ⟨l, hl⟩ : ∃ l, ls[k]? = some l := ⟨ls[k]'(by rw [← HLN.out]; exact hlt), List.getElem?_eq_getElem _⟩
      obtain ⟨vb, vo, xb, xc, rfl, hvb, hvcell, hvrow⟩ := HRS.out k l hl
      have hvbr : vb < wr.heap.size := by have := hBw.size; omega
      have hl100 := HLR.out l (List.mem_of_getElem? hl)
      have q0 : wr.cell? ⟨vb, vo + k, none⟩ = some (.slice xb l.length xc) := (hBw.cell (p := ⟨vb, vo + k, none⟩) hvb).trans hvcell
      have HXR := Lib.hid ((hvrow.below hBw).mono hBw.size)
      have hl5 : (ls.take k ++ [l]).length = k + 1 := by rw [List.length_append, hlk]; rfl
      have HTK : Hid (ls.take (k + 1) = ls.take k ++ [l]) := by show _ = _; rw [List.take_add_one, hl]; rfl
      have HLK := Lib.hid hlk
      have HL5 := Lib.hid hl5
      clear hl hvcell hvrow gX hlk hl5
      go_wp2_with (at_builtin; first
        | (refine wpList_append_reads (wr.alloc (.cells #[] 2)) rfl (.tmp 30) (.tmp 35) 45 rfl wr.heap.size 2 i0 (.int .i64 0) 8 Try.underlying45 hi0 hiz hiz1 hizb rfl (.slice (some ⟨wr.heap.size, 0, none⟩) 0 0) 0 [] rfl (owns_empty wr _) wr.heap.size (.slice xb l.length xc) (l.map i64V) rfl (HXR.out.alloc (Nat.le_refl _) _) (one_i64 l) (by rw [List.length_map]; unfold maxLen; omega) (by rw [List.length_map]; omega) (by simp) ?_; intro v4 w4 hown4 hg4; have hb4 : Below wr.heap.size wr w4 := (((Below.refl _ wr).alloc (Nat.le_refl _) _)).grown hg4 (by simp) (fun k hk => by simp [Value.ownBlock] at hk; omega); have hz4 := hb4.size; have HO4 : Hid (w4.owns w1.heap.size 2 1 v4 l.length (l.map i64V)) := (by have h4 := hown4; rw [List.nil_append, Nat.zero_add, List.length_map] at h4; exact h4.mono (by omega)); obtain ⟨va4, vc4, rfl, -, -, -⟩ := HO4.out.at_; have HR4 := Lib.hid (hO.out.below hb4); have HB4 := Lib.hid hb4; clear hown4 hg4 hb4)
        | (refine wpList_pushRow rfl (.tmp 29) (.tmp 37) 29 rfl w1.heap.size 45 2 (by decide) i1 (.slice none 0 0) 24 Try.underlying29 hi1 hi1z hi1z1 hi1b rfl (.slice oa k oc) _ rfl HR4.out (.slice va4 l.length vc4) l HO4.out w4.heap.size rfl rfl rfl (by rw [HLK.out]; unfold maxLen; omega) (by rw [HLK.out]; omega) (by omega) ?_; intro v5 w5 hr5 hz5 hBB5 hKK5; obtain ⟨va5, vc5, rfl⟩ := hr5.open_; rw [HL5.out] at hr5 ⊢; have HR5 := Lib.hid hr5; have HBB5 := Lib.hid hBB5; clear hr5 hBB5 hKK5))
      go_wp2
      go_roundw
      case rel => exact ⟨k + 1, by omega, by go_num, by rw [HTK.out]; exact HR5.out, HBB5.out w1.heap.size w1 (hBr.trans (HB4.out.mono hsr)) (by omega)⟩
      case measure => simp [intOf]; omega
    · obtain rfl : k = L := by omega
      have hOx := hO.out
      rw [List.take_of_length_le (by rw [← HLN.out]; exact Nat.le_refl _)] at hOx
      have HOX := Lib.hid hOx
      clear hO hOx hlk kl
      obtain ⟨⟨k0, k1, k2, k3, k4, k5, k6, k7⟩, ⟨-, -, -⟩, ⟨-, -, -⟩, ki, -, kl⟩ := case17J gX
      have hC := HWT.out wr hBX
      clear gX
      go_wp2_with fail
      refine hC.mono ?_
      rintro e w3 ⟨rv3, rfl, hv3, hb3⟩
      obtain ⟨ra3, rc3, rfl, -⟩ := hv3.shape
      clear hC k0 k1 k2 k3 k4 k5 k6 k7 ki kl
      go_upto_region 9 with (fail)
      obtain ⟨W3, hW3⟩ : ∃ W, W = w3.alloc (.cells #[.int .i64 wl, .bool false, .slice ra3 wr_.length rc3] 28) := ⟨_, rfl⟩
      have g3 : W3.heap[w3.heap.size]? = some (.cells #[.int .i64 wl, .bool false, .slice ra3 wr_.length rc3] 28) := by rw [hW3]; exact alloc_last _ _ rfl
      have hr3 : Below wr.heap.size wr W3 := by rw [hW3]; exact (hb3).alloc (hb3.size) _
      have hv3' : W3.rows u32V W3.heap.size (.slice ra3 wr_.length rc3) wr_ := by rw [hW3]; exact (hv3.below ((Below.refl _ _).alloc (Nat.le_refl _) _)).mono (by simp)
      rw [← hW3]
      have HV3 := Lib.hid hv3'
      have Hg3 := Lib.hid g3
      clear hW3 hv3' hv3
      have hBX3 := hBX.trans (hr3.mono hBX.size)
      have hC := HJN.out W3 hBX3 _ ((HOX.out.rows.below hr3).mono hr3.size)
      have gX := HGG.out W3 hBX3
      have lX3 := lt_of_heap gX
      obtain ⟨⟨k0, k1, k2, k3, k4, k5, k6, k7⟩, ⟨-, -, -⟩, ⟨-, -, -⟩, -, klev, -⟩ := case17J gX
      clear gX g3
      go_wp2_with fail
      refine hC.mono ?_
      rintro e w4 ⟨rv4, rfl, hv4, hb4⟩
      obtain ⟨ra4, rc4, rfl, -⟩ := hv4.shape
      clear hC k0 k1 k2 k3 k4 k5 k6 k7 klev
      go_upto_region 10 with (fail)
      obtain ⟨W4, hW4⟩ : ∃ W, W = w4.alloc (.cells #[.int .i64 jl, .bool false, .slice ra4 jr.length rc4] 28) := ⟨_, rfl⟩
      have g4 : W4.heap[w4.heap.size]? = some (.cells #[.int .i64 jl, .bool false, .slice ra4 jr.length rc4] 28) := by rw [hW4]; exact alloc_last _ _ rfl
      have hr4 : Below W3.heap.size W3 W4 := by rw [hW4]; exact (hb4).alloc (hb4.size) _
      have hv4' : W4.rows u32V W4.heap.size (.slice ra4 jr.length rc4) jr := by rw [hW4]; exact (hv4.below ((Below.refl _ _).alloc (Nat.le_refl _) _)).mono (by simp)
      rw [← hW4]
      have HV4 := Lib.hid hv4'
      have Hg4 := Lib.hid g4
      clear hW4 hv4' hv4
      have hBX4 := hBX3.trans (hr4.mono hBX3.size)
      have hrr4 := hr3.trans (hr4.mono hr3.size)
      have hC := HSS.out W4 _ hBX4 ((HOX.out.rows.below hrr4).mono hrr4.size)
      have gX := HGG.out W4 hBX4
      have lX4 := lt_of_heap gX
      obtain ⟨⟨-, -, -, -, -, -, -, -⟩, ⟨-, -, -⟩, ⟨-, -, -⟩, -, -, kl⟩ := case17J gX
      clear gX g4
      go_wp2_with fail
      refine hC.mono ?_
      rintro e w5 ⟨rfl, hn5⟩
      have hb5 : Below W4.heap.size W4 w5 := below_of_drewN hn5
      clear hC kl hn5
      have hBX5 := hBX4.trans (hb5.mono hBX4.size)
      have hC := HRW.out w5 hBX5
      have gX := HGG.out w5 hBX5
      have lX5 := lt_of_heap gX
      obtain ⟨⟨k0, k1, k2, k3, k4, k5, k6, k7⟩, ⟨-, -, -⟩, ⟨-, -, -⟩, ki, -, -⟩ := case17J gX
      clear gX
      go_wp2_with fail
      refine hC.mono ?_
      rintro e w6 ⟨rv6, rfl, hv6, hb6⟩
      obtain ⟨ra6, rc6, rfl, -⟩ := hv6.shape
      clear hC k0 k1 k2 k3 k4 k5 k6 k7 ki
      go_upto_region 13 with (fail)
      obtain ⟨W6, hW6⟩ : ∃ W, W = w6.alloc (.cells #[.int .i64 wl, .bool false, .slice ra6 wr_.length rc6] 28) := ⟨_, rfl⟩
      have g6 : W6.heap[w6.heap.size]? = some (.cells #[.int .i64 wl, .bool false, .slice ra6 wr_.length rc6] 28) := by rw [hW6]; exact alloc_last _ _ rfl
      have hr6 : Below w5.heap.size w5 W6 := by rw [hW6]; exact (hb6).alloc (hb6.size) _
      have hv6' : W6.rows u32V W6.heap.size (.slice ra6 wr_.length rc6) wr_ := by rw [hW6]; exact (hv6.below ((Below.refl _ _).alloc (Nat.le_refl _) _)).mono (by simp)
      rw [← hW6]
      have HV6 := Lib.hid hv6'
      have Hg6 := Lib.hid g6
      clear hW6 hv6' hv6
      have hBX6 := hBX5.trans (hr6.mono hBX5.size)
      have hC := HRJ'.out W6 hBX6
      have gX := HGG.out W6 hBX6
      have lX6 := lt_of_heap gX
      obtain ⟨⟨k0, k1, k2, k3, k4, k5, k6, k7⟩, ⟨-, -, -⟩, ⟨-, -, -⟩, -, klev, kl⟩ := case17J gX
      clear gX g6
      go_wp2_with fail
      refine hC.mono ?_
      rintro e w7 ⟨rv7, rfl, hv7, hb7⟩
      obtain ⟨ra7, rc7, rfl, -⟩ := hv7.shape
      clear hC k0 k1 k2 k3 k4 k5 k6 k7 klev kl
      go_upto_region 14 with (fail)
      obtain ⟨W7, hW7⟩ : ∃ W, W = w7.alloc (.cells #[.int .i64 jl, .bool false, .slice ra7 jr.length rc7] 28) := ⟨_, rfl⟩
      have g7 : W7.heap[w7.heap.size]? = some (.cells #[.int .i64 jl, .bool false, .slice ra7 jr.length rc7] 28) := by rw [hW7]; exact alloc_last _ _ rfl
      have hr7 : Below W6.heap.size W6 W7 := by rw [hW7]; exact (hb7).alloc (hb7.size) _
      have hv7' : W7.rows u32V W7.heap.size (.slice ra7 jr.length rc7) jr := by rw [hW7]; exact (hv7.below ((Below.refl _ _).alloc (Nat.le_refl _) _)).mono (by simp)
      rw [← hW7]
      have HV7 := Lib.hid hv7'
      have Hg7 := Lib.hid g7
      clear hW7 hv7' hv7
      have hr57 := hr6.trans (hr7.mono hr6.size)
      have hr47 := hb5.trans (hr57.mono hb5.size)
      have hr37 := hr4.trans (hr47.mono hr4.size)
      have hBX7 := hBX6.trans (hr7.mono hBX6.size)
      have hC := HSW.out W7 _ _ ((HV3.out.below hr37).mono hr37.size) ((HV6.out.below hr7).mono hr7.size)
      have e5 := (hr37.block _ (lt_of_heap Hg3.out)).trans Hg3.out
      have e9 := (hr7.block _ (lt_of_heap Hg6.out)).trans Hg6.out
      have z5 := lt_of_heap e5
      have z9 := lt_of_heap e9
      obtain ⟨o0, o1, o2, -, -, -⟩ := elem_cells e5
      obtain ⟨d0, d1, d2, -, -, -⟩ := elem_cells e9
      clear e5 e9 g7
      go_wp2_with fail
      refine hC.mono ?_
      rintro e w8 ⟨rfl, hb8⟩
      clear hC o0 o1 o2 d0 d1 d2
      have hr48 := hr47.trans (hb8.mono hr47.size)
      have hBX8 := hBX7.trans (hb8.mono hBX7.size)
      have hC := HSJ.out w8 _ _ ((HV4.out.below hr48).mono hr48.size) ((HV7.out.below hb8).mono hb8.size)
      have e5 := (hr48.block _ (lt_of_heap Hg4.out)).trans Hg4.out
      have e9 := (hb8.block _ (lt_of_heap Hg7.out)).trans Hg7.out
      have z7 := lt_of_heap e5
      have z11 := lt_of_heap e9
      obtain ⟨o0, o1, o2, -, -, -⟩ := elem_cells e5
      obtain ⟨d0, d1, d2, -, -, -⟩ := elem_cells e9
      clear e5 e9
      go_wp2_with fail
      refine hC.mono ?_
      rintro e w9 ⟨rfl, hb9⟩
      clear hC o0 o1 o2 d0 d1 d2
      have hBX9 := hBX8.trans (hb9.mono hBX8.size)
      go_wp2_with fail
      refine (awake_any w9).mono ?_
      rintro e wz ⟨rfl, hbz⟩
      go_wp2
      go_ret
      exact ⟨rfl, hB0.trans ((hBX9.trans (hbz.mono hBX9.size)).mono hB0.size)⟩
end Go.Proofs.Ytpcpgmgpkegjlaa
