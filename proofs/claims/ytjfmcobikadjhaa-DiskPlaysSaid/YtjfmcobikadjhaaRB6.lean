/- Laws of the disk: an act of both disks. -/
import Derived.Test.YtjfmcobikadjhaaRB5
namespace Go.Proofs.Ytjfmcobikadjhaa
set_option linter.all false
open Go.RowKit Go.Shelf
def five (p b0 b1 rp rb k : Nat) : Prop := k = p ∨ k = b0 ∨ k = b1 ∨ k = rp ∨ k = rb
theorem appended_isok {d : Dk} (ho : d.ok) (r : List UInt8) : (d.appended r).2.ok := by
  unfold Dk.appended
  split
  · exact ho
  split
  · exact ho
  split
  · exact ho
  split
  · exact ho
  · refine put_ok ho _ _ ?_ (appS_ok _ _ _ _ _ ⟨ho.f1, ho.f2⟩)
    unfold appS
    rw [putS_length, putS_length]
    have hal : d.wr.h.length = d.size := act_length ho
    split
    · rw [putS_length, putS_length, hal]
    · rw [putS_length, hal]
theorem rewritten_isok {d : Dk} (ho : d.ok) (l : List (List UInt8)) : (d.rewritten l).2.ok := by
  unfold Dk.rewritten
  split
  · exact ho
  split
  · exact ho
  split
  · exact ho
  · refine put_ok ho _ _ ?_ (rewS_ok _ _ _ _ ⟨ho.f1, ho.f2⟩)
    unfold rewS
    rw [putS_length, putS_length, putS_length, putS_length]
    show (if d.half = 0 then d.h1 else d.h0).length = _
    split
    · exact ho.l1
    · exact ho.l0
theorem fused_isok {d : Dk} (ho : d.ok) (n : Int) (hn : n ≤ 9223372036854775807) : (d.fused n).2.ok := by
  unfold Dk.fused
  split
  · exact ho
  · exact ⟨ho.l0, ho.l1, ho.lo, ho.hi, by show -1 ≤ n; omega, hn⟩
theorem DiskAt.kp {w w' : World} {P : Nat → Prop} {p b0 b1 : Nat} {d : Dk} (h : DiskAt w p b0 b1 d) (hk : Kp P w w') (hp : ¬ P p) (h0 : ¬ P b0) (h1 : ¬ P b1) : DiskAt w' p b0 b1 d :=
  ⟨(hk.block p (lt_of_heap h.at_) hp).trans h.at_, h.a0.kp hk h0, h.a1.kp hk h1, h.n01, h.n0, h.n1⟩
theorem RDiskAt.kp {w w' : World} {P : Nat → Prop} {p b : Nat} {d : Dk} (h : RDiskAt w p b d) (hk : Kp P w w') (hp : ¬ P p) (h0 : ¬ P b) : RDiskAt w' p b d :=
  ⟨(hk.block p (lt_of_heap h.at_) hp).trans h.at_, h.half.kp hk h0, h.ne⟩
structure Apart (p b0 b1 rp rb : Nat) : Prop where
  a : ¬ three p b0 b1 rp
  b : ¬ three p b0 b1 rb
  c : ¬ two rp rb p
  d : ¬ two rp rb b0
  e : ¬ two rp rb b1
theorem kp3 {p b0 b1 rp rb : Nat} {w w' : World} (h : Kp (three p b0 b1) w w') : Kp (five p b0 b1 rp rb) w w' := h.mono (fun k q => by
  rcases q with q | q | q
  · exact Or.inl q
  · exact Or.inr (Or.inl q)
  · exact Or.inr (Or.inr (Or.inl q)))
theorem kp2 {p b0 b1 rp rb : Nat} {w w' : World} (h : Kp (two rp rb) w w') : Kp (five p b0 b1 rp rb) w w' := h.mono (fun k q => by
  rcases q with q | q
  · exact Or.inr (Or.inr (Or.inr (Or.inl q)))
  · exact Or.inr (Or.inr (Or.inr (Or.inr q))))
set_option maxRecDepth 100000 in
set_option maxHeartbeats 40000000 in
theorem does_any (p b0 b1 rp rb : Nat) (hap : Apart p b0 b1 rp rb) (d : Dk) (x : ActR) (lv : Value) (hwf : x.wf) (hls : longB [x.text] 70000 = false ∧ longB x.list 70000 = false) (w : World) (B0 : Nat) (hB0w : B0 ≤ w.heap.size) (h5 : ∀ k, five p b0 b1 rp rb k → B0 ≤ k) (hlv : w.reads B0 lv (x.list.map Value.string))
    (hd : DiskAt w p b0 b1 d) (hr : RDiskAt w rp rb d) (ho : d.ok) :
    Calls Try.prog 20 #[.pointer (some ⟨p, 0, none⟩), .pointer (some ⟨rp, 0, none⟩), .agg #[.int .u8 x.what, .int .i64 x.n, .string x.text, lv]] w fun e w' => e = .returned (.bool true) ∧ (∃ d', DiskAt w' p b0 b1 d' ∧ RDiskAt w' rp rb d' ∧ d'.ok) ∧ Kp (five p b0 b1 rp rb) w w' := by
  obtain ⟨u, hu⟩ : ∃ u : Nat, x.what = (u : Int) := ⟨x.what.toNat, by have := hwf.w0.1; omega⟩
  obtain ⟨q, hq⟩ : ∃ q, q = u % 6 := ⟨_, rfl⟩
  have hub : u ≤ 255 := by have := hwf.w0.2; omega
  have htm : (u : Int).tmod 6 = (q : Int) := by
    rw [hq]
    exact (Int.natCast_emod u 6).symm ▸ Int.tmod_eq_emod_of_nonneg (by omega)
  have hq6 : q < 6 := by omega
  rw [hu]
  have HWF := Lib.hid hwf
  have HAP := Lib.hid hap
  have HD := Lib.hid hd
  have HR := Lib.hid hr
  have HO := Lib.hid ho
  have HLS := Lib.hid hls
  have HQ := Lib.hid hq
  obtain ⟨lb, ln, lc, hlve⟩ : ∃ a n c, lv = .slice a n c := by
    obtain ⟨a, c, e, -⟩ := hlv
    exact ⟨_, _, _, e⟩
  subst hlve
  have hpl := lt_of_heap hd.at_
  have hrl := lt_of_heap hr.at_
  have h0l := hd.a0.lt
  have h1l := hd.a1.lt
  have hrbl := hr.half.lt
  obtain ⟨W0, hW0⟩ : ∃ W0, W0 = w.alloc (.cells #[.int .u8 (u : Int), .int .i64 x.n, .string x.text, .slice lb ln lc] 34) := ⟨_, rfl⟩
  have hB0 : Below w.heap.size w W0 := by rw [hW0]; exact (Below.refl _ w).alloc (Nat.le_refl _) _
  have hbx : W0.heap[w.heap.size]? = some (.cells #[.int .u8 (u : Int), .int .i64 x.n, .string x.text, .slice lb ln lc] 34) := by rw [hW0]; exact alloc_last _ _ rfl
  have HB0 := Lib.hid hB0
  have HBX := Lib.hid hbx
  obtain ⟨B, hBe⟩ : ∃ B, B = w.heap.size := ⟨_, rfl⟩
  have hBn : ¬ five p b0 b1 rp rb B := by rintro (h | h | h | h | h) <;> omega
  rw [← hBe] at HBX
  obtain ⟨j0, j1, j2, j3, -, -⟩ := four_cells HBX.out
  have HBN := Lib.hid hBn
  have HLV := Lib.hid hlv
  have HLO := Lib.hid h5
  have HD0 := Lib.hid (hd.kept hB0)
  have HR0 := Lib.hid (hr.kept hB0)
  have HLV0 : Hid (W0.reads B0 (.slice lb ln lc) (x.list.map Value.string)) := hlv.below (hB0.mono hB0w)
  have hB0W : B0 ≤ W0.heap.size := Nat.le_trans hB0w hB0.size
  have HFU : Hid (∀ k, five p b0 b1 rp rb k → k < W0.heap.size) := fun k c => by
    have := hB0.size
    rcases c with h | h | h | h | h <;> omega
  clear hu hq hwf hap hd hr ho hls hlv h5 hpl hrl h0l h1l hrbl hB0 hbx hBn
  go_enter Try.func20, Try.ntmps20
  go_upto_region 1 with (fail)
  rw [← hW0, ← hBe]
  clear hW0 hBe
  have BTO3 : ∀ {k}, three p b0 b1 k → five p b0 b1 rp rb k := fun q => by
    rcases q with q | q | q
    · exact Or.inl q
    · exact Or.inr (Or.inl q)
    · exact Or.inr (Or.inr (Or.inl q))
  have BTO2 : ∀ {k}, two rp rb k → five p b0 b1 rp rb k := fun q => by
    rcases q with q | q
    · exact Or.inr (Or.inr (Or.inr (Or.inl q)))
    · exact Or.inr (Or.inr (Or.inr (Or.inr q)))
  by_cases hqe0 : q = 0
  · have hq0 : ((q : Int) == 0) = true := by rw [hqe0]; rfl
    have hts := text_short x.text HLS.out.1
    obtain ⟨E, hE⟩ : ∃ e, e = (d.appended (textL x.text)).1 := ⟨_, rfl⟩
    obtain ⟨d6, hd6⟩ : ∃ e, e = (d.appended (textL x.text)).2 := ⟨_, rfl⟩
    have HOK : Hid d6.ok := by rw [hd6]; exact appended_isok HO.out _
    have HC1 : Hid (∀ W, DiskAt W p b0 b1 d → Calls Try.prog 12 #[.pointer (some ⟨p, 0, none⟩), .string x.text] W fun e w' => e = .returned (.int .i64 E) ∧ DiskAt w' p b0 b1 d6 ∧ Kp (three p b0 b1) W w') := fun W hW => by
      have := Append_any p b0 b1 d (textL x.text) (by show x.text.size ≤ _; omega) W hW HO.out
      rw [← hE, ← hd6, bytesOf_textL] at this; exact this
    have HC2 : Hid (∀ W, RDiskAt W rp rb d → Calls Try.prog 35 #[.pointer (some ⟨rp, 0, none⟩), .string x.text] W fun e w' => e = .returned (.int .i64 E) ∧ RDiskAt w' rp rb d6 ∧ Kp (two rp rb) W w') := fun W hW => by
      have := rAppend_any rp rb d (textL x.text) (by show x.text.size ≤ _; omega) W hW HO.out
      rw [← hE, ← hd6, bytesOf_textL] at this; exact this
    clear hE hd6
    have tE : (E == E) = true := by simp
    go_wp2_with fail
    refine wp_region_heldL (fun w' => w'.cell? ⟨B, 2, none⟩ = some (.string x.text)) (by kernel_rfl) j2 (fun hS => ?_)
    refine wpAnyH_takeL 0 (v := ?_) (by kernel_rfl) rfl (by kernel_rfl) (by kernel_rfl) (fun _ _ _ h => h) (Or.inl ⟨by rfl, ?_⟩) (by assumption) ?_
    rotate_left
    · (intro wq hSq; (try dsimp only at hSq); go_simp; try with_reducible rfl)
    try simp only [Act.put, List.setIfInBounds_toArray, List.set_cons_zero, List.set_cons_succ]
    refine wpAnyH_takeL 1 (v := ?_) (by kernel_rfl) rfl (by kernel_rfl) (by kernel_rfl) (fun _ _ _ h => h) (Or.inl ⟨by rfl, ?_⟩) (by assumption) ?_
    rotate_left
    · (intro wq hSq; (try dsimp only at hSq); go_simp; try with_reducible rfl)
    try simp only [Act.put, List.setIfInBounds_toArray, List.set_cons_zero, List.set_cons_succ]
    refine wpAnyH_takeL 2 (v := ?_) (by kernel_rfl) rfl (by kernel_rfl) (by kernel_rfl) (fun _ _ _ h => h) (Or.inl ⟨by rfl, ?_⟩) (by assumption) ?_
    rotate_left
    · (intro wq hSq; (try dsimp only at hSq); go_simp; try with_reducible rfl)
    try simp only [Act.put, List.setIfInBounds_toArray, List.set_cons_zero, List.set_cons_succ]
    refine wpAnyH_takeL 4 (v := ?_) (by kernel_rfl) rfl (by kernel_rfl) (by kernel_rfl) (fun _ _ _ h => h) (Or.inl ⟨by rfl, ?_⟩) (by assumption) ?_
    rotate_left
    · (intro wq hSq; (try dsimp only at hSq); go_simp; try with_reducible rfl)
    try simp only [Act.put, List.setIfInBounds_toArray, List.set_cons_zero, List.set_cons_succ]
    refine wpAnyH_takeL 5 (v := ?_) (by kernel_rfl) rfl (by kernel_rfl) (by kernel_rfl) (fun _ _ _ h => h) (Or.inl ⟨by rfl, ?_⟩) (by assumption) ?_
    rotate_left
    · (intro wq hSq; (try dsimp only at hSq); go_simp; try with_reducible rfl)
    try simp only [Act.put, List.setIfInBounds_toArray, List.set_cons_zero, List.set_cons_succ]
    refine wpAnyH_takeL 6 (v := ?_) (by kernel_rfl) rfl (by kernel_rfl) (by kernel_rfl) (fun _ _ _ h => h) (Or.inl ⟨by rfl, ?_⟩) (by assumption) ?_
    rotate_left
    · (intro wq hSq; (try dsimp only at hSq); go_simp; try with_reducible rfl)
    try simp only [Act.put, List.setIfInBounds_toArray, List.set_cons_zero, List.set_cons_succ]
    refine wpAnyH_stepL 3 (by kernel_rfl) rfl (fun K hK => ?_)
    go_simp
    go_at_call 12
    refine (HC1.out _ HD0.out.drew).mono ?_
    rintro e w2 ⟨rfl, hd2, hk2⟩
    have hbx2 : w2.heap[B]? = some (.cells #[.int .u8 (u : Int), .int .i64 x.n, .string x.text, .slice lb ln lc] 34) := (hk2.block B (lt_of_heap HBX.out) (fun c => HBN.out (BTO3 c))).trans HBX.out
    obtain ⟨i0, i1, i2, i3, -, -⟩ := four_cells hbx2
    have HD2 := Lib.hid hd2
    have HK2 := Lib.hid hk2
    have HR2 := Lib.hid (HR0.out.drew.kp hk2 HAP.out.a HAP.out.b)
    refine hK.out _ _ i2 (fun hS2 => ?_)
    clear hK K hS hd2 hk2
    try simp only [Act.put, List.setIfInBounds_toArray, List.set_cons_zero, List.set_cons_succ]
    refine wpAnyH_stepL 7 (by kernel_rfl) rfl (fun K hK => ?_)
    go_simp
    go_at_call 35
    refine (HC2.out _ HR2.out).mono ?_
    rintro e w3 ⟨rfl, hr3, hk3⟩
    have hbx3 := (hk3.block B (lt_of_heap hbx2) (fun c => HBN.out (BTO2 c))).trans hbx2
    obtain ⟨y0, y1, y2, y3, -, -⟩ := four_cells hbx3
    have HR3 := Lib.hid hr3
    have HD3 := Lib.hid (HD2.out.kp hk3 HAP.out.c HAP.out.d HAP.out.e)
    have HK3 : Hid (Kp (five p b0 b1 rp rb) w w3) := ((Kp.of_below HB0.out).drew.trans (kp3 HK2.out)).trans (kp2 hk3)
    refine hK.out _ _ y2 (fun hS3 => ?_)
    clear hK K hS2 hr3 hk3
    try simp only [Act.put, List.setIfInBounds_toArray, List.set_cons_zero, List.set_cons_succ]
    refine wpAnyH_takeL 8 (v := ?_) (by kernel_rfl) rfl (by kernel_rfl) (by kernel_rfl) (fun _ _ _ h => h) (Or.inl ⟨by rfl, ?_⟩) (by assumption) ?_
    rotate_left
    · (intro wq hSq; (try dsimp only at hSq); go_simp; try with_reducible rfl)
    try simp only [Act.put, List.setIfInBounds_toArray, List.set_cons_zero, List.set_cons_succ]
    refine wpAnyH_takeL 9 (v := ?_) (by kernel_rfl) rfl (by kernel_rfl) (by kernel_rfl) (fun _ _ _ h => h) (Or.inl ⟨by rfl, ?_⟩) (by assumption) ?_
    rotate_left
    · (intro wq hSq; (try dsimp only at hSq); go_simp; try with_reducible rfl)
    try simp only [Act.put, List.setIfInBounds_toArray, List.set_cons_zero, List.set_cons_succ]
    refine wpAnyH_end (by kernel_rfl) ?_
    go_wp2
    go_ret
    exact ⟨rfl, ⟨d6, HD3.out, HR3.out, HOK.out⟩, HK3.out⟩
  by_cases hqe1 : q = 1
  · have hq0 : ((q : Int) == 0) = false := by rw [beq_eq_false_iff_ne]; omega
    have hq1 : ((q : Int) == 1) = true := by rw [hqe1]; rfl
    obtain ⟨i0, hi0, hiz, hiz1, hizb⟩ := info_parts infoStr
    obtain ⟨M, hM⟩ : ∃ M, M = x.list.map textL := ⟨_, rfl⟩
    have HLM : Hid (W0.reads B0 (.slice lb ln lc) (M.map strV)) := by
      have h := HLV0.out
      rw [map_text, ← hM] at h; exact h
    obtain ⟨ML, hML⟩ : ∃ m, m = M.length := ⟨_, rfl⟩
    have hMb : ML ≤ 70000 := by rw [hML, hM, List.length_map]; exact list_short x.list HLS.out.2
    have HML := Lib.hid hML
    clear hM hML
    have j3a : (W0.alloc (.cells #[] 9)).cell? ⟨B, 3, none⟩ = some (.slice lb ln lc) := (((Below.refl _ W0).alloc (Nat.le_refl _) (.cells #[] 9)).cell (p := ⟨B, 3, none⟩) (lt_of_heap HBX.out)).trans j3
    go_wp2_with (at_builtin; refine wpList_append_reads (W0.alloc (.cells #[] 9)) rfl (.tmp 24) (.tmp 26) 30 rfl W0.heap.size 9 i0 (.string ByteArray.empty) 16 Try.underlying30 hi0 hiz hiz1 hizb rfl (.slice (some ⟨W0.heap.size, 0, none⟩) 0 0) 0 [] rfl (owns_empty W0 _) B0 (.slice lb ln lc) (M.map strV) rfl (HLM.out.alloc hB0W _) (fun y hy => by obtain ⟨s, _, rfl⟩ := List.mem_map.1 hy; exact one_str s) (by rw [List.length_map, ← HML.out]; unfold maxLen; omega) (by rw [List.length_map, ← HML.out]; omega) (by simp) ?_; intro v4 w4 hown4 hg4; rw [List.length_map, ← HML.out, Nat.zero_add, List.nil_append] at hown4; have HO4 := Lib.hid hown4; obtain ⟨va4, vc4, rfl, -, -, -⟩ := hown4.at_; have hb4 : Below W0.heap.size W0 w4 := (((Below.refl _ W0).alloc (Nat.le_refl _) _)).grown hg4 (by simp) (fun k hk => by simp [Value.ownBlock] at hk; omega); have hz4 := hb4.size; have HB4 := Lib.hid hb4; clear hown4 hg4 hb4)
    have hbx4 := (HB4.out.block B (lt_of_heap HBX.out)).trans HBX.out
    have HD4 := Lib.hid (HD0.out.kept HB4.out)
    have HR4 := Lib.hid (HR0.out.kept HB4.out)
    have HW4 : Hid (w4.reads w4.heap.size (.slice va4 ML vc4) (M.map strV)) := HO4.out.reads
    have HL4 := Lib.hid (HLM.out.below (HB4.out.mono hB0W))
    have HWV : Hid (∀ k, (Value.slice va4 ML vc4).ownBlock = some k → ¬ five p b0 b1 rp rb k) := fun k e c => by
      have h1 := (HO4.out.lt _ e).1
      have h2 := HFU.out k c
      omega
    clear j0 j1 j2 j3 j3a
    obtain ⟨j0, j1, j2, j3, -, -⟩ := four_cells hbx4
    have HX4 := Lib.hid hbx4
    clear hbx4
    obtain ⟨E, hE⟩ : ∃ e, e = (d.rewritten M).1 := ⟨_, rfl⟩
    obtain ⟨d6, hd6⟩ : ∃ e, e = (d.rewritten M).2 := ⟨_, rfl⟩
    have HOK : Hid d6.ok := by rw [hd6]; exact rewritten_isok HO.out M
    have HC1 := Lib.hid (Rewrite_any p b0 b1 d M (.slice va4 ML vc4) w4.drew HW4.out HD4.out.drew HO.out)
    rw [← hE, ← hd6] at HC1
    have HC2 : Hid (∀ W, RDiskAt W rp rb d → W.reads W.heap.size (.slice lb ln lc) (M.map strV) → Calls Try.prog 36 #[.pointer (some ⟨rp, 0, none⟩), .slice lb ln lc] W fun e w' => e = .returned (.int .i64 E) ∧ RDiskAt w' rp rb d6 ∧ Kp (two rp rb) W w') := fun W hW hl => by
      have := rRewrite_any rp rb d M (.slice lb ln lc) W hl hW HO.out
      rw [← hE, ← hd6] at this; exact this
    clear hE hd6
    have tE : (E == E) = true := by simp
    go_wp2_with fail
    refine wp_region_heldL (fun w' => w'.cell? ⟨B, 3, none⟩ = some (.slice lb ln lc)) (by kernel_rfl) j3 (fun hS => ?_)
    refine wpAnyH_takeL 0 (v := ?_) (by kernel_rfl) rfl (by kernel_rfl) (by kernel_rfl) (fun _ _ _ h => h) (Or.inl ⟨by rfl, ?_⟩) (by assumption) ?_
    rotate_left
    · (intro wq hSq; (try dsimp only at hSq); go_simp; try with_reducible rfl)
    try simp only [Act.put, List.setIfInBounds_toArray, List.set_cons_zero, List.set_cons_succ]
    refine wpAnyH_takeL 1 (v := ?_) (by kernel_rfl) rfl (by kernel_rfl) (by kernel_rfl) (fun _ _ _ h => h) (Or.inl ⟨by rfl, ?_⟩) (by assumption) ?_
    rotate_left
    · (intro wq hSq; (try dsimp only at hSq); go_simp; try with_reducible rfl)
    try simp only [Act.put, List.setIfInBounds_toArray, List.set_cons_zero, List.set_cons_succ]
    refine wpAnyH_takeL 3 (v := ?_) (by kernel_rfl) rfl (by kernel_rfl) (by kernel_rfl) (fun _ _ _ h => h) (Or.inl ⟨by rfl, ?_⟩) (by assumption) ?_
    rotate_left
    · (intro wq hSq; (try dsimp only at hSq); go_simp; try with_reducible rfl)
    try simp only [Act.put, List.setIfInBounds_toArray, List.set_cons_zero, List.set_cons_succ]
    refine wpAnyH_takeL 4 (v := ?_) (by kernel_rfl) rfl (by kernel_rfl) (by kernel_rfl) (fun _ _ _ h => h) (Or.inl ⟨by rfl, ?_⟩) (by assumption) ?_
    rotate_left
    · (intro wq hSq; (try dsimp only at hSq); go_simp; try with_reducible rfl)
    try simp only [Act.put, List.setIfInBounds_toArray, List.set_cons_zero, List.set_cons_succ]
    refine wpAnyH_takeL 5 (v := ?_) (by kernel_rfl) rfl (by kernel_rfl) (by kernel_rfl) (fun _ _ _ h => h) (Or.inl ⟨by rfl, ?_⟩) (by assumption) ?_
    rotate_left
    · (intro wq hSq; (try dsimp only at hSq); go_simp; try with_reducible rfl)
    try simp only [Act.put, List.setIfInBounds_toArray, List.set_cons_zero, List.set_cons_succ]
    refine wpAnyH_stepL 2 (by kernel_rfl) rfl (fun K hK => ?_)
    go_simp
    go_at_call 13
    refine HC1.out.mono ?_
    rintro e w5 ⟨rfl, hd5, hk5⟩
    have hbx5 := (hk5.block B (lt_of_heap HX4.out) (fun c => HBN.out (BTO3 c))).trans HX4.out
    obtain ⟨i1', i2', i3', i4', -, -⟩ := four_cells hbx5
    have HD5 := Lib.hid hd5
    have HK5 := Lib.hid hk5
    have HR5 := Lib.hid (HR4.out.drew.kp hk5 HAP.out.a HAP.out.b)
    have hz5 := hk5.size
    have HW5 := Lib.hid ((hk5.reads HW4.out (fun k e c => HWV.out k e (BTO3 c))).mono hz5)
    have HL5 := Lib.hid (hk5.readsB HL4.out (fun k c => HLO.out k (BTO3 c)))
    refine hK.out _ _ i4' (fun hS2 => ?_)
    clear hK K hS hd5 hk5
    try simp only [Act.put, List.setIfInBounds_toArray, List.set_cons_zero, List.set_cons_succ]
    refine wpAnyH_stepL 6 (by kernel_rfl) rfl (fun K hK => ?_)
    go_simp
    go_at_call 36
    refine (HC2.out _ HR5.out (HL5.out.mono (Nat.le_trans hB0W (Nat.le_trans hz4 hz5)))).mono ?_
    rintro e w6 ⟨rfl, hr6, hk6⟩
    have hbx6 := (hk6.block B (lt_of_heap hbx5) (fun c => HBN.out (BTO2 c))).trans hbx5
    obtain ⟨y0, y1, y2, y3, -, -⟩ := four_cells hbx6
    have HR6 := Lib.hid hr6
    have HD6 := Lib.hid (HD5.out.kp hk6 HAP.out.c HAP.out.d HAP.out.e)
    have hz6 := hk6.size
    have HW6 := Lib.hid ((hk6.reads HW5.out (fun k e c => HWV.out k e (BTO2 c))).mono hz6)
    have HL6 := Lib.hid (hk6.readsB HL5.out (fun k c => HLO.out k (BTO2 c)))
    have HK6 : Hid (Kp (five p b0 b1 rp rb) w w6) := (((Kp.of_below HB0.out).trans (Kp.of_below HB4.out)).drew.trans (kp3 HK5.out)).trans (kp2 hk6)
    refine hK.out _ _ y3 (fun hS3 => ?_)
    clear hK K hS2 hr6 hk6
    try simp only [Act.put, List.setIfInBounds_toArray, List.set_cons_zero, List.set_cons_succ]
    refine wpAnyH_takeL 7 (v := ?_) (by kernel_rfl) rfl (by kernel_rfl) (by kernel_rfl) (fun _ _ _ h => h) (Or.inl ⟨by rfl, ?_⟩) (by assumption) ?_
    rotate_left
    · (intro wq hSq; (try dsimp only at hSq); go_simp; try with_reducible rfl)
    try simp only [Act.put, List.setIfInBounds_toArray, List.set_cons_zero, List.set_cons_succ]
    refine wpAnyH_takeL 8 (v := ?_) (by kernel_rfl) rfl (by kernel_rfl) (by kernel_rfl) (fun _ _ _ h => h) (Or.inl ⟨by rfl, ?_⟩) (by assumption) ?_
    rotate_left
    · (intro wq hSq; (try dsimp only at hSq); go_simp; try with_reducible rfl)
    try simp only [Act.put, List.setIfInBounds_toArray, List.set_cons_zero, List.set_cons_succ]
    refine wpAnyH_takeL 9 (v := ?_) (by kernel_rfl) rfl (by kernel_rfl) (by kernel_rfl) (fun _ _ _ h => h) (Or.inl ⟨by rfl, ?_⟩) (by assumption) ?_
    rotate_left
    · (intro wq hSq; (try dsimp only at hSq); go_simp; try with_reducible rfl)
    try simp only [Act.put, List.setIfInBounds_toArray, List.set_cons_zero, List.set_cons_succ]
    refine wpAnyH_takeL 10 (v := ?_) (by kernel_rfl) rfl (by kernel_rfl) (by kernel_rfl) (fun _ _ _ h => h) (Or.inl ⟨by rfl, ?_⟩) (by assumption) ?_
    rotate_left
    · (intro wq hSq; (try dsimp only at hSq); go_simp; try with_reducible rfl)
    try simp only [Act.put, List.setIfInBounds_toArray, List.set_cons_zero, List.set_cons_succ]
    refine wpAnyH_takeL 11 (v := ?_) (by kernel_rfl) rfl (by kernel_rfl) (by kernel_rfl) (fun _ _ _ h => h) (Or.inl ⟨by rfl, ?_⟩) (by assumption) ?_
    rotate_left
    · (intro wq hSq; (try dsimp only at hSq); go_simp; try with_reducible rfl)
    try simp only [Act.put, List.setIfInBounds_toArray, List.set_cons_zero, List.set_cons_succ]
    refine wpAnyH_stepL 12 (by kernel_rfl) rfl (fun K hK => ?_)
    go_simp
    go_at_call 17
    refine (SameT_any M M (by rw [← HML.out]; omega) _ _ _ HW6.out (HL6.out.mono (Nat.le_trans hB0W (Nat.le_trans hz4 (Nat.le_trans hz5 hz6))))).mono ?_
    rintro e w7 ⟨he, hb7⟩
    rw [decide_eq_true rfl] at he
    subst he
    have hbx7 := (hb7.block B (lt_of_heap hbx6)).trans hbx6
    obtain ⟨z0, z1, z2, z3, -, -⟩ := four_cells hbx7
    have HD7 := Lib.hid (HD6.out.kept hb7)
    have HR7 := Lib.hid (HR6.out.kept hb7)
    have HK7 := Lib.hid (HK6.out.trans (Kp.of_below hb7))
    refine hK.out _ _ z3 (fun hS4 => ?_)
    clear hK K hS3 hb7
    try simp only [Act.put, List.setIfInBounds_toArray, List.set_cons_zero, List.set_cons_succ]
    refine wpAnyH_takeL 13 (v := ?_) (by kernel_rfl) rfl (by kernel_rfl) (by kernel_rfl) (fun _ _ _ h => h) (Or.inl ⟨by rfl, ?_⟩) (by assumption) ?_
    rotate_left
    · (intro wq hSq; (try dsimp only at hSq); go_simp; try with_reducible rfl)
    try simp only [Act.put, List.setIfInBounds_toArray, List.set_cons_zero, List.set_cons_succ]
    refine wpAnyH_takeL 14 (v := ?_) (by kernel_rfl) rfl (by kernel_rfl) (by kernel_rfl) (fun _ _ _ h => h) (Or.inl ⟨by rfl, ?_⟩) (by assumption) ?_
    rotate_left
    · (intro wq hSq; (try dsimp only at hSq); go_simp; try with_reducible rfl)
    try simp only [Act.put, List.setIfInBounds_toArray, List.set_cons_zero, List.set_cons_succ]
    refine wpAnyH_end (by kernel_rfl) ?_
    go_wp2
    go_ret
    exact ⟨rfl, ⟨d6, HD7.out, HR7.out, HOK.out⟩, HK7.out⟩
  by_cases hqe2 : q = 2
  · have hq0 : ((q : Int) == 0) = false := by rw [beq_eq_false_iff_ne]; omega
    have hq1 : ((q : Int) == 1) = false := by rw [beq_eq_false_iff_ne]; omega
    have hq2 : ((q : Int) == 2) = true := by rw [hqe2]; rfl
    obtain ⟨E, hE⟩ : ∃ e, e = (d.fused x.n).1 := ⟨_, rfl⟩
    obtain ⟨d6, hd6⟩ : ∃ e, e = (d.fused x.n).2 := ⟨_, rfl⟩
    have HOK : Hid d6.ok := by rw [hd6]; exact fused_isok HO.out _ HWF.out.w1.2
    have HC1 : Hid (∀ W, DiskAt W p b0 b1 d → Calls Try.prog 14 #[.pointer (some ⟨p, 0, none⟩), .int .i64 x.n] W fun e w' => e = .returned (.int .i64 E) ∧ DiskAt w' p b0 b1 d6 ∧ Kp (three p b0 b1) W w') := fun W hW => by
      have := Fuse_any p b0 b1 d x.n W hW
      rw [← hE, ← hd6] at this; exact this
    have HC2 : Hid (∀ W, RDiskAt W rp rb d → Calls Try.prog 37 #[.pointer (some ⟨rp, 0, none⟩), .int .i64 x.n] W fun e w' => e = .returned (.int .i64 E) ∧ RDiskAt w' rp rb d6 ∧ Kp (two rp rb) W w') := fun W hW => by
      have := rFuse_any rp rb d x.n W hW
      rw [← hE, ← hd6] at this; exact this
    clear hE hd6
    have tE : (E == E) = true := by simp
    go_wp2_with fail
    refine wp_region_heldL (fun w' => w'.cell? ⟨B, 1, none⟩ = some (.int .i64 x.n)) (by kernel_rfl) j1 (fun hS => ?_)
    refine wpAnyH_takeL 0 (v := ?_) (by kernel_rfl) rfl (by kernel_rfl) (by kernel_rfl) (fun _ _ _ h => h) (Or.inl ⟨by rfl, ?_⟩) (by assumption) ?_
    rotate_left
    · (intro wq hSq; (try dsimp only at hSq); go_simp; try with_reducible rfl)
    try simp only [Act.put, List.setIfInBounds_toArray, List.set_cons_zero, List.set_cons_succ]
    refine wpAnyH_takeL 1 (v := ?_) (by kernel_rfl) rfl (by kernel_rfl) (by kernel_rfl) (fun _ _ _ h => h) (Or.inl ⟨by rfl, ?_⟩) (by assumption) ?_
    rotate_left
    · (intro wq hSq; (try dsimp only at hSq); go_simp; try with_reducible rfl)
    try simp only [Act.put, List.setIfInBounds_toArray, List.set_cons_zero, List.set_cons_succ]
    refine wpAnyH_takeL 2 (v := ?_) (by kernel_rfl) rfl (by kernel_rfl) (by kernel_rfl) (fun _ _ _ h => h) (Or.inl ⟨by rfl, ?_⟩) (by assumption) ?_
    rotate_left
    · (intro wq hSq; (try dsimp only at hSq); go_simp; try with_reducible rfl)
    try simp only [Act.put, List.setIfInBounds_toArray, List.set_cons_zero, List.set_cons_succ]
    refine wpAnyH_takeL 4 (v := ?_) (by kernel_rfl) rfl (by kernel_rfl) (by kernel_rfl) (fun _ _ _ h => h) (Or.inl ⟨by rfl, ?_⟩) (by assumption) ?_
    rotate_left
    · (intro wq hSq; (try dsimp only at hSq); go_simp; try with_reducible rfl)
    try simp only [Act.put, List.setIfInBounds_toArray, List.set_cons_zero, List.set_cons_succ]
    refine wpAnyH_takeL 5 (v := ?_) (by kernel_rfl) rfl (by kernel_rfl) (by kernel_rfl) (fun _ _ _ h => h) (Or.inl ⟨by rfl, ?_⟩) (by assumption) ?_
    rotate_left
    · (intro wq hSq; (try dsimp only at hSq); go_simp; try with_reducible rfl)
    try simp only [Act.put, List.setIfInBounds_toArray, List.set_cons_zero, List.set_cons_succ]
    refine wpAnyH_takeL 6 (v := ?_) (by kernel_rfl) rfl (by kernel_rfl) (by kernel_rfl) (fun _ _ _ h => h) (Or.inl ⟨by rfl, ?_⟩) (by assumption) ?_
    rotate_left
    · (intro wq hSq; (try dsimp only at hSq); go_simp; try with_reducible rfl)
    try simp only [Act.put, List.setIfInBounds_toArray, List.set_cons_zero, List.set_cons_succ]
    refine wpAnyH_stepL 3 (by kernel_rfl) rfl (fun K hK => ?_)
    go_simp
    go_at_call 14
    refine (HC1.out _ HD0.out.drew).mono ?_
    rintro e w2 ⟨rfl, hd2, hk2⟩
    have hbx2 : w2.heap[B]? = some (.cells #[.int .u8 (u : Int), .int .i64 x.n, .string x.text, .slice lb ln lc] 34) := (hk2.block B (lt_of_heap HBX.out) (fun c => HBN.out (BTO3 c))).trans HBX.out
    obtain ⟨i0, i1, i2, i3, -, -⟩ := four_cells hbx2
    have HD2 := Lib.hid hd2
    have HK2 := Lib.hid hk2
    have HR2 := Lib.hid (HR0.out.drew.kp hk2 HAP.out.a HAP.out.b)
    refine hK.out _ _ i1 (fun hS2 => ?_)
    clear hK K hS hd2 hk2
    try simp only [Act.put, List.setIfInBounds_toArray, List.set_cons_zero, List.set_cons_succ]
    refine wpAnyH_stepL 7 (by kernel_rfl) rfl (fun K hK => ?_)
    go_simp
    go_at_call 37
    refine (HC2.out _ HR2.out).mono ?_
    rintro e w3 ⟨rfl, hr3, hk3⟩
    have hbx3 := (hk3.block B (lt_of_heap hbx2) (fun c => HBN.out (BTO2 c))).trans hbx2
    obtain ⟨y0, y1, y2, y3, -, -⟩ := four_cells hbx3
    have HR3 := Lib.hid hr3
    have HD3 := Lib.hid (HD2.out.kp hk3 HAP.out.c HAP.out.d HAP.out.e)
    have HK3 : Hid (Kp (five p b0 b1 rp rb) w w3) := ((Kp.of_below HB0.out).drew.trans (kp3 HK2.out)).trans (kp2 hk3)
    refine hK.out _ _ y1 (fun hS3 => ?_)
    clear hK K hS2 hr3 hk3
    try simp only [Act.put, List.setIfInBounds_toArray, List.set_cons_zero, List.set_cons_succ]
    refine wpAnyH_takeL 8 (v := ?_) (by kernel_rfl) rfl (by kernel_rfl) (by kernel_rfl) (fun _ _ _ h => h) (Or.inl ⟨by rfl, ?_⟩) (by assumption) ?_
    rotate_left
    · (intro wq hSq; (try dsimp only at hSq); go_simp; try with_reducible rfl)
    try simp only [Act.put, List.setIfInBounds_toArray, List.set_cons_zero, List.set_cons_succ]
    refine wpAnyH_takeL 9 (v := ?_) (by kernel_rfl) rfl (by kernel_rfl) (by kernel_rfl) (fun _ _ _ h => h) (Or.inl ⟨by rfl, ?_⟩) (by assumption) ?_
    rotate_left
    · (intro wq hSq; (try dsimp only at hSq); go_simp; try with_reducible rfl)
    try simp only [Act.put, List.setIfInBounds_toArray, List.set_cons_zero, List.set_cons_succ]
    refine wpAnyH_end (by kernel_rfl) ?_
    go_wp2
    go_ret
    exact ⟨rfl, ⟨d6, HD3.out, HR3.out, HOK.out⟩, HK3.out⟩
  by_cases hqe3 : q = 3
  · have hq0 : ((q : Int) == 0) = false := by rw [beq_eq_false_iff_ne]; omega
    have hq1 : ((q : Int) == 1) = false := by rw [beq_eq_false_iff_ne]; omega
    have hq2 : ((q : Int) == 2) = false := by rw [beq_eq_false_iff_ne]; omega
    have hq3 : ((q : Int) == 3) = true := by rw [hqe3]; rfl
    go_wp2_with fail
    refine (Restart_any p b0 b1 d _ HD0.out).mono ?_
    rintro e w2 ⟨⟨v2, rfl⟩, hd2, hk2⟩
    have HD2 := Lib.hid hd2
    have HR2 := Lib.hid (HR0.out.kp hk2 HAP.out.a HAP.out.b)
    have HK2 := Lib.hid hk2
    clear hd2 hk2 j0 j1 j2 j3
    go_wp2_with fail
    refine (rRestart_any rp rb d _ HR2.out).mono ?_
    rintro e w3 ⟨⟨v3, rfl⟩, hr3, hk3⟩
    have HD3 := Lib.hid (HD2.out.kp hk3 HAP.out.c HAP.out.d HAP.out.e)
    have HR3 := Lib.hid hr3
    have HK3 : Hid (Kp (five p b0 b1 rp rb) w w3) := ((Kp.of_below HB0.out).trans (kp3 HK2.out)).trans (kp2 hk3)
    have HOK : Hid (({ d with fuse := -1, failed := false } : Dk).ok) := ⟨HO.out.l0, HO.out.l1, HO.out.lo, HO.out.hi, by show (-1 : Int) ≤ -1; omega, by show (-1 : Int) ≤ _; omega⟩
    clear hr3 hk3
    go_wp2
    go_ret
    exact ⟨rfl, ⟨_, HD3.out, HR3.out, HOK.out⟩, HK3.out⟩
  by_cases hqe4 : q = 4
  · have hq0 : ((q : Int) == 0) = false := by rw [beq_eq_false_iff_ne]; omega
    have hq1 : ((q : Int) == 1) = false := by rw [beq_eq_false_iff_ne]; omega
    have hq2 : ((q : Int) == 2) = false := by rw [beq_eq_false_iff_ne]; omega
    have hq3 : ((q : Int) == 3) = false := by rw [beq_eq_false_iff_ne]; omega
    have hq4 : ((q : Int) == 4) = true := by rw [hqe4]; rfl
    obtain ⟨E, hE⟩ : ∃ e, e = (d.flipped x.n).1 := ⟨_, rfl⟩
    obtain ⟨d6, hd6⟩ : ∃ e, e = (d.flipped x.n).2 := ⟨_, rfl⟩
    have HOK : Hid d6.ok := by rw [hd6]; exact flipped_ok HO.out _
    have HC1 : Hid (∀ W, DiskAt W p b0 b1 d → Calls Try.prog 22 #[.pointer (some ⟨p, 0, none⟩), .int .i64 x.n] W fun e w' => e = .returned (.int .i64 E) ∧ DiskAt w' p b0 b1 d6 ∧ Kp (three p b0 b1) W w') := fun W hW => by
      have := Flip_any p b0 b1 d x.n W hW HO.out
      rw [← hE, ← hd6] at this; exact this
    have HC2 : Hid (∀ W, RDiskAt W rp rb d → Calls Try.prog 39 #[.pointer (some ⟨rp, 0, none⟩), .int .i64 x.n] W fun e w' => e = .returned (.int .i64 E) ∧ RDiskAt w' rp rb d6 ∧ Kp (two rp rb) W w') := fun W hW => by
      have := rFlip_any rp rb d x.n W hW HO.out
      rw [← hE, ← hd6] at this; exact this
    clear hE hd6
    have tE : (E == E) = true := by simp
    go_wp2_with fail
    refine wp_region_heldL (fun w' => w'.cell? ⟨B, 1, none⟩ = some (.int .i64 x.n)) (by kernel_rfl) j1 (fun hS => ?_)
    refine wpAnyH_takeL 0 (v := ?_) (by kernel_rfl) rfl (by kernel_rfl) (by kernel_rfl) (fun _ _ _ h => h) (Or.inl ⟨by rfl, ?_⟩) (by assumption) ?_
    rotate_left
    · (intro wq hSq; (try dsimp only at hSq); go_simp; try with_reducible rfl)
    try simp only [Act.put, List.setIfInBounds_toArray, List.set_cons_zero, List.set_cons_succ]
    refine wpAnyH_takeL 1 (v := ?_) (by kernel_rfl) rfl (by kernel_rfl) (by kernel_rfl) (fun _ _ _ h => h) (Or.inl ⟨by rfl, ?_⟩) (by assumption) ?_
    rotate_left
    · (intro wq hSq; (try dsimp only at hSq); go_simp; try with_reducible rfl)
    try simp only [Act.put, List.setIfInBounds_toArray, List.set_cons_zero, List.set_cons_succ]
    refine wpAnyH_takeL 2 (v := ?_) (by kernel_rfl) rfl (by kernel_rfl) (by kernel_rfl) (fun _ _ _ h => h) (Or.inl ⟨by rfl, ?_⟩) (by assumption) ?_
    rotate_left
    · (intro wq hSq; (try dsimp only at hSq); go_simp; try with_reducible rfl)
    try simp only [Act.put, List.setIfInBounds_toArray, List.set_cons_zero, List.set_cons_succ]
    refine wpAnyH_takeL 4 (v := ?_) (by kernel_rfl) rfl (by kernel_rfl) (by kernel_rfl) (fun _ _ _ h => h) (Or.inl ⟨by rfl, ?_⟩) (by assumption) ?_
    rotate_left
    · (intro wq hSq; (try dsimp only at hSq); go_simp; try with_reducible rfl)
    try simp only [Act.put, List.setIfInBounds_toArray, List.set_cons_zero, List.set_cons_succ]
    refine wpAnyH_takeL 5 (v := ?_) (by kernel_rfl) rfl (by kernel_rfl) (by kernel_rfl) (fun _ _ _ h => h) (Or.inl ⟨by rfl, ?_⟩) (by assumption) ?_
    rotate_left
    · (intro wq hSq; (try dsimp only at hSq); go_simp; try with_reducible rfl)
    try simp only [Act.put, List.setIfInBounds_toArray, List.set_cons_zero, List.set_cons_succ]
    refine wpAnyH_takeL 6 (v := ?_) (by kernel_rfl) rfl (by kernel_rfl) (by kernel_rfl) (fun _ _ _ h => h) (Or.inl ⟨by rfl, ?_⟩) (by assumption) ?_
    rotate_left
    · (intro wq hSq; (try dsimp only at hSq); go_simp; try with_reducible rfl)
    try simp only [Act.put, List.setIfInBounds_toArray, List.set_cons_zero, List.set_cons_succ]
    refine wpAnyH_stepL 3 (by kernel_rfl) rfl (fun K hK => ?_)
    go_simp
    go_at_call 22
    refine (HC1.out _ HD0.out.drew).mono ?_
    rintro e w2 ⟨rfl, hd2, hk2⟩
    have hbx2 : w2.heap[B]? = some (.cells #[.int .u8 (u : Int), .int .i64 x.n, .string x.text, .slice lb ln lc] 34) := (hk2.block B (lt_of_heap HBX.out) (fun c => HBN.out (BTO3 c))).trans HBX.out
    obtain ⟨i0, i1, i2, i3, -, -⟩ := four_cells hbx2
    have HD2 := Lib.hid hd2
    have HK2 := Lib.hid hk2
    have HR2 := Lib.hid (HR0.out.drew.kp hk2 HAP.out.a HAP.out.b)
    refine hK.out _ _ i1 (fun hS2 => ?_)
    clear hK K hS hd2 hk2
    try simp only [Act.put, List.setIfInBounds_toArray, List.set_cons_zero, List.set_cons_succ]
    refine wpAnyH_stepL 7 (by kernel_rfl) rfl (fun K hK => ?_)
    go_simp
    go_at_call 39
    refine (HC2.out _ HR2.out).mono ?_
    rintro e w3 ⟨rfl, hr3, hk3⟩
    have hbx3 := (hk3.block B (lt_of_heap hbx2) (fun c => HBN.out (BTO2 c))).trans hbx2
    obtain ⟨y0, y1, y2, y3, -, -⟩ := four_cells hbx3
    have HR3 := Lib.hid hr3
    have HD3 := Lib.hid (HD2.out.kp hk3 HAP.out.c HAP.out.d HAP.out.e)
    have HK3 : Hid (Kp (five p b0 b1 rp rb) w w3) := ((Kp.of_below HB0.out).drew.trans (kp3 HK2.out)).trans (kp2 hk3)
    refine hK.out _ _ y1 (fun hS3 => ?_)
    clear hK K hS2 hr3 hk3
    try simp only [Act.put, List.setIfInBounds_toArray, List.set_cons_zero, List.set_cons_succ]
    refine wpAnyH_takeL 8 (v := ?_) (by kernel_rfl) rfl (by kernel_rfl) (by kernel_rfl) (fun _ _ _ h => h) (Or.inl ⟨by rfl, ?_⟩) (by assumption) ?_
    rotate_left
    · (intro wq hSq; (try dsimp only at hSq); go_simp; try with_reducible rfl)
    try simp only [Act.put, List.setIfInBounds_toArray, List.set_cons_zero, List.set_cons_succ]
    refine wpAnyH_takeL 9 (v := ?_) (by kernel_rfl) rfl (by kernel_rfl) (by kernel_rfl) (fun _ _ _ h => h) (Or.inl ⟨by rfl, ?_⟩) (by assumption) ?_
    rotate_left
    · (intro wq hSq; (try dsimp only at hSq); go_simp; try with_reducible rfl)
    try simp only [Act.put, List.setIfInBounds_toArray, List.set_cons_zero, List.set_cons_succ]
    refine wpAnyH_end (by kernel_rfl) ?_
    go_wp2
    go_ret
    exact ⟨rfl, ⟨d6, HD3.out, HR3.out, HOK.out⟩, HK3.out⟩
  have hq0 : ((q : Int) == 0) = false := by rw [beq_eq_false_iff_ne]; omega
  have hq1 : ((q : Int) == 1) = false := by rw [beq_eq_false_iff_ne]; omega
  have hq2 : ((q : Int) == 2) = false := by rw [beq_eq_false_iff_ne]; omega
  have hq3 : ((q : Int) == 3) = false := by rw [beq_eq_false_iff_ne]; omega
  have hq4 : ((q : Int) == 4) = false := by rw [beq_eq_false_iff_ne]; omega
  go_wp2
  go_ret
  exact ⟨rfl, ⟨d, HD0.out, HR0.out, HO.out⟩, Kp.of_below HB0.out⟩
end Go.Proofs.Ytjfmcobikadjhaa
