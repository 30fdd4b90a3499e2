/- Wide integers: helpers and walks, in one text (KC3 KD5 KD6 KD7). -/
import Derived.Test.YtnjblppapmflhaaKDa
/- Plain: what division by the last prime leaves. -/
namespace Go.Proofs.Ytnjblppapmflhaa
set_option linter.all false
open Go.RowKit PN
theorem balZ_cg (x : Int) (m : Nat) : Cg m (balZ x m) x := by
  unfold balZ
  split
  · have h := (Cg.of_mod (m := m) (a := x)).sub Cg.zero
    rwa [Int.sub_zero] at h
  · exact Cg.of_mod
theorem Cg.of_dvd {m n : Nat} {a b : Int} (h : Cg n a b) (hd : m ∣ n) : Cg m a b := Int.dvd_trans (Int.natCast_dvd_natCast.2 hd) h
theorem dvd_prodL {l : List Nat} {p : Nat} (hp : p ∈ l) : p ∣ prodL l := by
  obtain ⟨a, b, hab⟩ := List.append_of_mem hp
  rw [hab, prodL_append]
  exact ⟨prodL a * prodL b, by simp [prodL, Nat.mul_left_comm]⟩
theorem balI_cg (a n : Nat) : Cg n (balI a n) (a : Int) := by
  unfold balI
  split
  · have h := (Cg.refl n (a : Int)).sub Cg.zero
    rwa [Int.sub_zero] at h
  · exact Cg.refl _ _
theorem balI_abs {a n : Nat} (h : a < n) : -(n : Int) < balI a n ∧ balI a n < n ∧ 2 * (balI a n).natAbs ≤ n := by
  unfold balI
  split <;> omega
theorem toNat_cg {x : Int} {p : Nat} (hp : 0 < p) : Cg p (((x % (p : Int)).toNat : Nat) : Int) x := by
  have h0 := Int.emod_nonneg x (show (p : Int) ≠ 0 by omega)
  have e : (((x % (p : Int)).toNat : Nat) : Int) = x % (p : Int) := by omega
  rw [e]
  exact Cg.of_mod
/-- The residues of the quotient. -/
theorem over_eq {ps rs : List Nat} (hs : Sep ps) (hr : RowP ps rs) {m q t : Nat} {z d : Int} (hl : ps.length = m + 1) (hq : ps[m]? = some q) (hz : ∀ i p r : Nat, ps[i]? = some p → rs[i]? = some r → Cg p z (r : Int)) (hd : (q : Int) ∣ z - d * t) :
    overL ps rs d t = resL (ps.take m) ((z - d * t) / q) := by
  apply List.ext_getElem?
  intro i
  unfold overL resL
  rw [show ps.length - 1 = m by omega]
  rcases Nat.lt_or_ge i m with hi | hi
  · have hip : i < ps.length := by omega
    have hir : i < rs.length := by rw [hr.1]; omega
    obtain ⟨p, hp⟩ : ∃ p, ps[i]? = some p := ⟨ps[i], List.getElem?_eq_getElem hip⟩
    obtain ⟨r, hri⟩ : ∃ r, rs[i]? = some r := ⟨rs[i], List.getElem?_eq_getElem hir⟩
    rw [List.getElem?_map, List.getElem?_map, List.getElem?_range hi, List.getElem?_take, if_pos hi, hp]
    simp only [Option.map_some, getD_some hp, getD_some hq, getD_some hri]
    congr 1
    obtain ⟨p1, p2, p3, p4⟩ := hs i p hp
    obtain ⟨q1, _, _, q4⟩ := hs m q hq
    have hne : p ≠ q := fun e => q4 (by rw [← e]; exact List.mem_of_getElem? (by rw [List.getElem?_take, if_pos hi]; exact hp))
    have hcop := pr_cop p1 q1 hne
    have hgq : Nat.gcd p (q % p) = 1 := by
      rw [Nat.gcd_comm, ← Nat.gcd_rec]
      exact hcop
    have hp2 := p1.1
    obtain ⟨i1, i2, i3⟩ := invN_spec hp2 (show p < 4294967296 by omega) (Nat.mod_lt q (by omega)) hgq
    obtain ⟨y, hy⟩ := hd
    have hq0 : (q : Int) ≠ 0 := by have := q1.1; omega
    have ey : (z - d * t) / q = y := by rw [hy]; exact Int.mul_ediv_cancel_left _ hq0
    rw [ey]
    have c1 : Cg p ((overD p q r t d : Nat) : Int) (((r : Int) - d * t) * (invN (q % p) p : Nat)) := by
      unfold overD
      refine Cg.modN.trans ?_
      rw [Int.natCast_mul]
      refine Cg.mul ?_ (Cg.refl _ _)
      refine Cg.modN.trans ?_
      have h5 : (d % (p : Int)).toNat * (t % p) % p < p := Nat.mod_lt _ (by omega)
      rw [show ((r + p - (d % (p : Int)).toNat * (t % p) % p : Nat) : Int) = ((r : Int) - (((d % (p : Int)).toNat * (t % p) % p : Nat) : Int)) + p by omega]
      have h6 : Cg p ((((d % (p : Int)).toNat * (t % p) % p : Nat) : Int)) (d * t) := by
        refine Cg.modN.trans ?_
        rw [Int.natCast_mul]
        exact (toNat_cg (by omega)).mul Cg.modN
      have h7 := ((Cg.refl p (r : Int)).sub h6).add Cg.zero
      rwa [Int.add_zero] at h7
    have c2 : Cg p ((q : Int) * (invN (q % p) p : Nat)) 1 := ((Cg.modN (m := p) (a := q)).symm.mul (Cg.refl _ _)).trans i3
    have c3 : Cg p y (((r : Int) - d * t) * (invN (q % p) p : Nat)) := by
      have h8 : Cg p (z - d * t) ((r : Int) - d * t) := (hz i p r hp hri).sub (Cg.refl _ _)
      rw [hy] at h8
      have h9 := h8.mul (Cg.refl p ((invN (q % p) p : Nat) : Int))
      have h10 := (c2.mul (Cg.refl p y)).symm
      rw [Int.one_mul] at h10
      rw [Int.mul_right_comm] at h9
      exact h10.trans h9
    refine Cg.eqN ((c1.trans c3.symm).trans (toNat_cg (by omega)).symm) (Nat.mod_lt _ (by omega)) ?_
    have h0 := Int.emod_nonneg y (show (p : Int) ≠ 0 by omega)
    have h1 := Int.emod_lt_of_pos y (show (0 : Int) < p by omega)
    omega
  · rw [List.getElem?_eq_none (by simpa using hi), List.getElem?_eq_none (by simp; omega)]
/-- The integer of a row. -/
def crtN (ps rs : List Nat) : Nat := mvL ps (digL ps rs ps.length)
def joinZ (ps rs : List Nat) : Int := balZ (crtN ps rs : Nat) (prodL ps : Nat)
theorem crtN_ok {ps rs : List Nat} (hs : Sep ps) (hr : RowP ps rs) : IsCrt ps rs (crtN ps rs) := garner_all hs hr
theorem joinZ_cg {ps rs : List Nat} (hs : Sep ps) (hr : RowP ps rs) : ∀ i p r : Nat, ps[i]? = some p → rs[i]? = some r → Cg p (joinZ ps rs) (r : Int) := fun i p r hp hri =>
  ((balZ_cg _ _).of_dvd (dvd_prodL (List.mem_of_getElem? hp))).trans ((crtN_ok hs hr).2 i p r hp hri)
theorem prodL_pos' {ps : List Nat} (hs : Sep ps) : 0 < prodL ps := prodL_pos fun p hp => (hs.mem hp).1.pos
theorem prodL_le25 {ps : List Nat} (hs : Sep ps) (hl : ps.length ≤ 25) : prodL ps ≤ 4294967296 ^ 25 :=
  Nat.le_trans (prodL_lt (fun p hp => by have := (hs.mem hp).2.2; omega)) (Nat.pow_le_pow_right (by omega) hl)
theorem inR_prodL {ps : List Nat} (hs : Sep ps) (hl : ps.length ≤ 25) : InR ((prodL ps : Nat) : Int) := by
  unfold InR; rw [Int.natAbs_natCast, lim_words]
  exact Nat.lt_of_le_of_lt (prodL_le25 hs hl) (Nat.pow_lt_pow_right (by omega) (by omega))
theorem joinZ_abs {ps rs : List Nat} (hs : Sep ps) : (joinZ ps rs).natAbs < prodL ps := by
  have := balZ_abs ((crtN ps rs : Nat) : Int) ((prodL ps : Nat) : Int) (by have := prodL_pos' hs; omega)
  unfold joinZ
  omega
theorem inR_joinZ {ps rs : List Nat} (hs : Sep ps) (hl : ps.length ≤ 25) : InR (joinZ ps rs) := by
  have := joinZ_abs (rs := rs) hs
  have h2 := inR_prodL hs hl
  unfold InR at *
  omega
end Go.Proofs.Ytnjblppapmflhaa

/- Walks: the methods of a system. -/
namespace Go.Proofs.Ytnjblppapmflhaa
set_option linter.all false
open Go.RowKit Go.Shelf Go.WideNum PN
/-- A row that was made, and an error. -/
def RowE (w : World) (l : List Nat) (E : Int) (e : Ending) (w' : World) : Prop := ∃ v, e = .returned (.tuple #[v, .int .i64 E]) ∧ w'.owns w.heap.size 23 1 v l.length (l.map u32V) ∧ Below w.heap.size w w'
theorem RowE.nil {w w' : World} (E : Int) (h : Below w.heap.size w w') : RowE w [] E (.returned (.tuple #[.slice none 0 0, .int .i64 E])) w' := ⟨_, rfl, World.owns_nil _ _ _ _, h⟩
theorem RowE.of {w w1 : World} {l : List Nat} {v : Value} (h : RowRet w l (.returned v) w1) (E : Int) : RowE w l E (.returned (.tuple #[v, .int .i64 E])) w1 := by
  obtain ⟨v', hv, h1, h2⟩ := h
  injection hv with hv
  subst hv
  exact ⟨_, rfl, h1, h2⟩
theorem RowRet.back {w w1 w2 : World} {l : List Nat} {e : Ending} (h : RowRet w1 l e w2) (hb : Below w.heap.size w w1) : RowRet w l e w2 := by
  obtain ⟨v, rfl, h1, h2⟩ := h
  exact ⟨v, rfl, h1.mono hb.size, hb.trans (h2.mono hb.size)⟩
theorem RowRet.shape {w w1 : World} {l : List Nat} {e : Ending} (h : RowRet w l e w1) : ∃ a n c, e = .returned (.slice a n c) := by
  obtain ⟨v, rfl, h1, -⟩ := h
  obtain ⟨a, c, rfl, -⟩ := h1.at_
  exact ⟨a, _, c, rfl⟩
def splitF (ps : List Nat) (n : Bool) (s : ByteArray) : List Nat × Int := if validB n s then (resL ps (zV n s), 0) else ([], 2)
set_option maxHeartbeats 4000000 in
theorem Split_any (b : Nat) (ps : List Nat) (n : Bool) (s : ByteArray) (hsz : s.size ≤ maxLen) (w : World) (hs : SysAt w b ps) (hsys : SysP ps) :
    Calls Try.prog 20 #[.pointer (some ⟨b, 0, none⟩), .agg #[.bool n, .string s]] w (RowE w (splitF ps n s).1 (splitF ps n s).2) := by
  obtain ⟨HPOST, hpost⟩ : ∃ R, R = RowE w (splitF ps n s).1 (splitF ps n s).2 := ⟨_, rfl⟩
  rw [← hpost]
  have HP := Lib.hid hpost
  have HNO : Hid (∀ W, SysAt W b ps → Calls Try.prog 38 #[.pointer (some ⟨b, 0, none⟩)] W fun e w' => e = .returned (.bool false) ∧ W = w') := fun W h => none_sys b ps W h
  obtain ⟨ok, hok⟩ : ∃ ok, ok = validB n s := ⟨_, rfl⟩
  have HV : Hid (∀ W : World, Calls Try.prog 52 #[.agg #[.bool n, .string s]] W fun e w' => e = .returned (.bool ok) ∧ Below W.heap.size W w') := fun W => by rw [hok]; exact Valid_any n s hsz W
  have HSYS := Lib.hid hs
  have hab : Below w.heap.size w (w.alloc (.cells #[.bool n, .string s] 38)) := (Below.refl _ _).alloc (Nat.le_refl _) _
  have hg : (w.alloc (.cells #[.bool n, .string s] 38)).heap[w.heap.size]? = some (.cells #[.bool n, .string s] 38) := heap_alloc_new w _
  have HSA := Lib.hid (hs.below hab)
  have HOK := Lib.hid hok
  clear hpost hs hok
  go_enter Try.func20, Try.ntmps20
  go_upto_region 1 with (fail)
  generalize w.alloc (.cells #[.bool n, .string s] 38) = wa at hab hg HSA ⊢
  have HAB := Lib.hid hab
  obtain ⟨x0, x1, -⟩ := wide_cells hg
  have HG := Lib.hid hg
  clear hab hg
  go_wp2_with fail
  (with_reducible refine (HNO.out _ HSA.out).mono ?_)
  rintro e w1 ⟨rfl, rfl⟩
  go_wp2_with fail
  (with_reducible refine (HV.out _).mono ?_)
  rintro e w2 ⟨rfl, hb2⟩
  have HB2 := Lib.hid (HAB.out.trans (hb2.mono HAB.out.size))
  have HS2 := Lib.hid (HSA.out.below hb2)
  have HSZ := Lib.hid hb2.size
  have hg2 := (hb2.block _ (lt_of_heap HG.out)).trans HG.out
  obtain ⟨y0, y1, -⟩ := wide_cells hg2
  clear hb2 x0 x1 hg2
  cases ok with
  | false =>
    go_wp2
    rw [HP.out]
    have : splitF ps n s = ([], 2) := by unfold splitF; rw [← HOK.out]; rfl
    rw [this]
    exact RowE.nil 2 HB2.out
  | true =>
    obtain ⟨r1, r2, r3⟩ := z_of_valid HOK.out.symm
    have hsp := fun W h => split_any b ps (zV n s) W h hsys.sep hsys.2.1 r1
    rw [r2, r3] at hsp
    have HSP : Hid (∀ W, SysAt W b ps → Calls Try.prog 53 #[.pointer (some ⟨b, 0, none⟩), .agg #[.bool n, .string s]] W (RowRet W (resL ps (zV n s)))) := hsp
    clear hsp r1 r2 r3
    go_wp2_with fail
    refine wp_region_late (fun w' => w'.cell? ⟨w.heap.size, 0, none⟩ = some (.bool n) ∧ w'.cell? ⟨w.heap.size, 1, none⟩ = some (.string s)) (fun _ => false) (by kernel_rfl) ⟨y0, y1⟩ (fun hHeld => ?_)
    refine wpAnyD_take 0 (v := ?_) (by kernel_rfl) (by kernel_rfl) rfl (by kernel_rfl) (by kernel_rfl) (fun _ _ _ h => h) (Or.inl ⟨by rfl, ?_⟩) (by assumption) ?_
    rotate_left
    · (intro wq hSq; (try dsimp only at hSq); go_simp; try with_reducible rfl)
    try simp only [Act.put, List.setIfInBounds_toArray, List.set_cons_zero, List.set_cons_succ]
    refine wpAnyD_take 1 (v := ?_) (by kernel_rfl) (by kernel_rfl) rfl (by kernel_rfl) (by kernel_rfl) (fun _ _ _ h => h) (Or.inl ⟨by rfl, ?_⟩) (by assumption) ?_
    rotate_left
    · (intro wq hSq; (try dsimp only at hSq); go_simp; try with_reducible rfl)
    try simp only [Act.put, List.setIfInBounds_toArray, List.set_cons_zero, List.set_cons_succ]
    refine wpAnyD_take 2 (v := ?_) (by kernel_rfl) (by kernel_rfl) rfl (by kernel_rfl) (by kernel_rfl) (fun _ _ _ h => h) (Or.inl ⟨by rfl, ?_⟩) (by assumption) ?_
    rotate_left
    · (intro wq hSq; (try dsimp only at hSq); go_simp; try with_reducible rfl)
    try simp only [Act.put, List.setIfInBounds_toArray, List.set_cons_zero, List.set_cons_succ]
    refine wpAnyD_take 3 (v := ?_) (by kernel_rfl) (by kernel_rfl) rfl (by kernel_rfl) (by kernel_rfl) (fun _ _ _ h => h) (Or.inl ⟨by rfl, ?_⟩) (by assumption) ?_
    rotate_left
    · (intro wq hSq; (try dsimp only at hSq); go_simp; try with_reducible rfl)
    try simp only [Act.put, List.setIfInBounds_toArray, List.set_cons_zero, List.set_cons_succ]
    refine wpAnyD_keep 4 (by kernel_rfl) rfl (fun K hK => ?_)
    go_simp
    go_at_call 53
    (with_reducible refine (HSP.out _ HS2.out.drew).mono ?_)
    rintro e w3 hr
    obtain ⟨v3, rfl, ho3, hb3⟩ := hr
    have HR3 : Hid (RowRet w (resL ps (zV n s)) (.returned v3) w3) := RowRet.back ⟨v3, rfl, ho3, hb3⟩ HB2.out.drew
    have hlt := lt_of_heap HG.out
    have hlt2 : w.heap.size < w2.drew.heap.size := by have := HSZ.out; show w.heap.size < w2.heap.size; omega
    refine hK.out _ _ ⟨(hb3.cell (p := ⟨w.heap.size, 0, none⟩) hlt2).trans y0, (hb3.cell (p := ⟨w.heap.size, 1, none⟩) hlt2).trans y1⟩ (fun hHeld3 => ?_)
    obtain ⟨va, vc, rfl, -⟩ := ho3.at_
    clear hK K hHeld ho3 hb3 y0 y1 hlt hlt2
    try simp only [Act.put, List.setIfInBounds_toArray, List.set_cons_zero, List.set_cons_succ]
    refine wpAnyD_takeW 5 (v := ?_) (by kernel_rfl) rfl (by kernel_rfl) (by kernel_rfl) (fun _ _ _ h => h) (Or.inl ⟨by rfl, ?_⟩) ?_
    rotate_left
    · (intro wq hSq; (try dsimp only at hSq); go_simp; try with_reducible rfl)
    try simp only [Act.put, List.setIfInBounds_toArray, List.set_cons_zero, List.set_cons_succ]
    refine wpAnyD_takeW 6 (v := ?_) (by kernel_rfl) rfl (by kernel_rfl) (by kernel_rfl) (fun _ _ _ h => h) (Or.inl ⟨by rfl, ?_⟩) ?_
    rotate_left
    · (intro wq hSq; (try dsimp only at hSq); go_simp; try with_reducible rfl)
    try simp only [Act.put, List.setIfInBounds_toArray, List.set_cons_zero, List.set_cons_succ]
    refine wpAnyD_end (by kernel_rfl) ?_
    go_wp2
    rw [HP.out]
    have : splitF ps n s = (resL ps (zV n s), 0) := by unfold splitF; rw [← HOK.out]; rfl
    rw [this]
    exact RowE.of HR3.out 0
theorem owns_empty (W : World) : (W.alloc (.cells #[] 23)).owns W.heap.size 23 1 (.slice (some ⟨W.heap.size, 0, none⟩) 0 0) 0 [] :=
  ⟨by simp, .inr ⟨W.heap.size, 0, #[], (0, 0), rfl, Nat.le_refl _, heap_alloc_new W _, okFz_zero _, Nat.le_refl _, Nat.zero_le _, by simp, by simp⟩⟩
theorem u32_one (l : List Nat) : ∀ u ∈ l.map u32V, u.oneCell' = true := fun u hu => by
  obtain ⟨x, -, rfl⟩ := List.mem_map.1 hu
  rfl
set_option maxHeartbeats 4000000 in
theorem Clone_any (ps : List Nat) (v : Value) (w : World) (hr : w.reads w.heap.size v (ps.map u32V)) (hne : ps ≠ []) (hlen : ps.length ≤ 1000) :
    Calls Try.prog 66 #[v] w (RowRet w ps) := by
  obtain ⟨HPOST, hpost⟩ : ∃ R, R = RowRet w ps := ⟨_, rfl⟩
  rw [← hpost]
  have HP := Lib.hid hpost
  clear hpost
  have hl : 0 < ps.length := List.length_pos_iff.2 hne
  obtain ⟨a, c, rfl, hc, hcm, hsh⟩ := reads_u32 hr
  obtain ⟨bb, oo, rfl, hbl, -⟩ := hsh 0 ps[0] (List.getElem?_eq_getElem hl)
  have hra := Lib.hid (hr.alloc (Nat.le_refl _) (.cells #[] 23))
  have HOE := Lib.hid (owns_empty w)
  have heq : ∀ W : World, (binOp .eql 22 (.slice (some ⟨bb, oo, none⟩) ps.length c) (.slice none 0 0)).run Try.prog W = .ok (.bool false) W := fun W => by kernel_rfl
  have hml : (ps.map u32V).length = ps.length := by simp
  obtain ⟨i0, hi0, hiz, hiz1, hizb⟩ := info_parts infoU32
  clear hsh hr
  go_enter Try.func66, Try.ntmps66
  go_wp2_with (at_builtin; refine wpList_append_reads _ rfl (.tmp 5) (.tmp 6) 22 rfl w.heap.size 23 i0 (.int .u32 0) 4 Try.underlying22 hi0 hiz hiz1 hizb rfl (.slice (some ⟨w.heap.size, 0, none⟩) 0 0) 0 [] rfl HOE.out w.heap.size (.slice (some ⟨bb, oo, none⟩) ps.length c) (ps.map u32V) rfl hra.out (u32_one ps) (by rw [hml]; unfold maxLen; omega) (by rw [hml]; omega) (by simp) ?_; intro v' w' ho hg; have HO := Lib.hid ho; have HG := Lib.hid hg; obtain ⟨va, vc, rfl, -⟩ := ho.at_; clear ho hg)
  rw [HP.out]
  refine ⟨_, rfl, ?_, ?_⟩
  · have := HO.out
    rwa [List.nil_append, Nat.zero_add, hml] at this
  · have h1 : Below w.heap.size w (w.alloc (.cells #[] 23)) := (Below.refl _ _).alloc (Nat.le_refl _) _
    exact h1.trans (below_grown HOE.out HG.out w.heap.size (Nat.le_refl _) (by simp))
set_option maxHeartbeats 4000000 in
theorem Moduli_any (b : Nat) (ps : List Nat) (w : World) (hs : SysAt w b ps) (hsys : SysP ps) :
    Calls Try.prog 36 #[.pointer (some ⟨b, 0, none⟩)] w (RowRet w ps) := by
  obtain ⟨HPOST, hpost⟩ : ∃ R, R = RowRet w ps := ⟨_, rfl⟩
  rw [← hpost]
  have HP := Lib.hid hpost
  have HNO : Hid (Calls Try.prog 38 #[.pointer (some ⟨b, 0, none⟩)] w fun e w' => e = .returned (.bool false) ∧ w = w') := none_sys b ps w hs
  obtain ⟨lv, iv, h1, h2, -⟩ := hs
  obtain ⟨c0, -⟩ := five_sys h1
  have hcl := Clone_any ps lv w h2 (fun h => by have := hsys.1; rw [h] at this; simp at this) (by have := hsys.2.1; omega)
  obtain ⟨pa, pc, rfl, -⟩ := reads_u32 h2
  have HCL := Lib.hid hcl
  clear h1 h2 hpost hcl hsys
  go_enter Try.func36, Try.ntmps36
  go_wp2_with fail
  (with_reducible refine (HNO.out).mono ?_)
  rintro e w1 ⟨rfl, rfl⟩
  go_wp2_with fail
  (with_reducible refine (HCL.out).mono ?_)
  rintro e w2 hr
  obtain ⟨va, vn, vc, rfl⟩ := hr.shape
  have HR := Lib.hid hr
  clear hr
  go_wp2
  rw [HP.out]
  exact HR.out
/-- What a form stands for. -/
def FormR (w : World) (z : Int) (e : Ending) (w' : World) : Prop := e = .returned (.agg #[.bool (zN z), .string (zT z)]) ∧ Below w.heap.size w w'
set_option maxHeartbeats 4000000 in
theorem Product_any (b : Nat) (ps : List Nat) (w : World) (hs : SysAt w b ps) :
    Calls Try.prog 27 #[.pointer (some ⟨b, 0, none⟩)] w (FormR w (prodL ps : Nat)) := by
  obtain ⟨HPOST, hpost⟩ : ∃ R, R = FormR w (prodL ps : Nat) := ⟨_, rfl⟩
  rw [← hpost]
  have HP := Lib.hid hpost
  have HNO : Hid (∀ W, SysAt W b ps → Calls Try.prog 38 #[.pointer (some ⟨b, 0, none⟩)] W fun e w' => e = .returned (.bool false) ∧ W = w') := fun W h => none_sys b ps W h
  have HSA := Lib.hid (hs.alloc (.cells #[.bool false, .string ⟨#[]⟩] 38))
  obtain ⟨qb, hqb⟩ : ∃ z, z = zN ((prodL ps : Nat) : Int) := ⟨_, rfl⟩
  obtain ⟨qt, hqt⟩ : ∃ z, z = zT ((prodL ps : Nat) : Int) := ⟨_, rfl⟩
  have HQB := Lib.hid hqb
  have HQT := Lib.hid hqt
  obtain ⟨lv, iv, h1, -, -⟩ := hs
  obtain ⟨-, c1, c2, -⟩ := five_sys h1
  rw [← hqb] at c1
  rw [← hqt] at c2
  have hbw := lt_of_heap h1
  have hab : Below w.heap.size w (w.alloc (.cells #[.bool false, .string ⟨#[]⟩] 38)) := (Below.refl _ _).alloc (Nat.le_refl _) _
  have hg : (w.alloc (.cells #[.bool false, .string ⟨#[]⟩] 38)).heap[w.heap.size]? = some (.cells #[.bool false, .string ⟨#[]⟩] 38) := heap_alloc_new w _
  have k1 := (hab.cell (p := ⟨b, 1, none⟩) hbw).trans c1
  have k2 := (hab.cell (p := ⟨b, 2, none⟩) hbw).trans c2
  clear h1 hpost hqb hqt c1 c2
  go_enter Try.func27, Try.ntmps27
  go_upto_region 1 with (fail)
  generalize w.alloc (.cells #[.bool false, .string ⟨#[]⟩] 38) = wa at hab hg HSA k1 k2 ⊢
  obtain ⟨x0, x1, xf⟩ := wide_cells hg
  have m2 := wide_set hg qb qt
  have hb9 := below_set2 (p := w.heap.size) hab (Nat.le_refl _) qb qt
  clear hab hg
  go_wp2_with fail
  (with_reducible refine (HNO.out _ HSA.out).mono ?_)
  rintro e w1 ⟨rfl, rfl⟩
  go_wp2
  obtain ⟨d20, d21, -⟩ := wide_cells m2
  clear m2
  generalize (wa.setCell ⟨w.heap.size, 0, none⟩ (.bool qb)).setCell ⟨w.heap.size, 1, none⟩ (.string qt) = W9 at d20 d21 hb9 ⊢
  rw [HP.out]
  exact bodyPost_ret (v := .agg #[.bool qb, .string qt]) (by simp [results, Try.results27, go_sem, d20, d21]) rfl ⟨by rw [HQB.out, HQT.out], hb9⟩
/-- The integer of a row, and an error. -/
def FormE (w : World) (z : Int) (E : Int) (e : Ending) (w' : World) : Prop := e = .returned (.tuple #[.agg #[.bool (zN z), .string (zT z)], .int .i64 E]) ∧ Below w.heap.size w w'
theorem zT_zero : zT 0 = ⟨#[]⟩ := by kernel_rfl
theorem zN_zero : zN 0 = false := by kernel_rfl
theorem row_any' (b : Nat) (ps rs : List Nat) (rv : Value) (ok : Bool) (hok : ok = true ↔ RowP ps rs) (w W : World) (hs : SysAt W b ps) (hr : w.reads w.heap.size rv (rs.map u32V)) (hb : Below w.heap.size w W) :
    Calls Try.prog 39 #[.pointer (some ⟨b, 0, none⟩), rv] W fun e w' => e = .returned (.bool ok) ∧ W = w' := row_any b ps rs rv W hs ((hr.below hb).mono hb.size) ok hok
set_option maxHeartbeats 4000000 in
theorem Join_any (b : Nat) (ps rs : List Nat) (rv : Value) (w : World) (hs : SysAt w b ps) (hsys : SysP ps) (hr : w.reads w.heap.size rv (rs.map u32V)) (ok : Bool) (hok : ok = true ↔ RowP ps rs) :
    Calls Try.prog 21 #[.pointer (some ⟨b, 0, none⟩), rv] w (FormE w (if ok then joinZ ps rs else 0) (if ok then 0 else 2)) := by
  obtain ⟨HPOST, hpost⟩ : ∃ R, R = FormE w (if ok then joinZ ps rs else 0) (if ok then 0 else 2) := ⟨_, rfl⟩
  rw [← hpost]
  have HP := Lib.hid hpost
  have HNO : Hid (∀ W, SysAt W b ps → Calls Try.prog 38 #[.pointer (some ⟨b, 0, none⟩)] W fun e w' => e = .returned (.bool false) ∧ W = w') := fun W h => none_sys b ps W h
  have HSA := Lib.hid (hs.alloc (.cells #[.bool false, .string ⟨#[]⟩] 38))
  have hab : Below w.heap.size w (w.alloc (.cells #[.bool false, .string ⟨#[]⟩] 38)) := (Below.refl _ _).alloc (Nat.le_refl _) _
  have hg : (w.alloc (.cells #[.bool false, .string ⟨#[]⟩] 38)).heap[w.heap.size]? = some (.cells #[.bool false, .string ⟨#[]⟩] 38) := heap_alloc_new w _
  have HROW := Lib.hid (row_any' b ps rs rv ok hok w _ HSA.out hr hab)
  have HRA := Lib.hid ((hr.below hab).mono hab.size)
  have HOK := Lib.hid hok
  obtain ⟨ra, rc, rfl, -⟩ := reads_u32 hr
  clear hpost hs hr hok
  go_enter Try.func21, Try.ntmps21
  go_upto_region 1 with (fail)
  generalize w.alloc (.cells #[.bool false, .string ⟨#[]⟩] 38) = wa at hab hg HSA HROW HRA ⊢
  have HG := Lib.hid hg
  have HAB := Lib.hid hab
  clear hab hg
  go_wp2_with fail
  (with_reducible refine (HNO.out _ HSA.out).mono ?_)
  rintro e w1 ⟨rfl, rfl⟩
  go_wp2_with fail
  (with_reducible refine (HROW.out).mono ?_)
  rintro e w1 ⟨rfl, rfl⟩
  cases ok with
  | false =>
    obtain ⟨x0, x1, xf⟩ := wide_cells HG.out
    go_wp2
    have m2 := wide_set HG.out false ⟨#[]⟩
    have hb9 := below_set2 (p := w.heap.size) HAB.out (Nat.le_refl _) false ⟨#[]⟩
    obtain ⟨d20, d21, -⟩ := wide_cells m2
    clear m2 x0 x1 xf
    generalize (wa.setCell ⟨w.heap.size, 0, none⟩ (.bool false)).setCell ⟨w.heap.size, 1, none⟩ (.string ⟨#[]⟩) = W9 at d20 d21 hb9 ⊢
    rw [HP.out]
    exact bodyPost_ret (v := .tuple #[.agg #[.bool false, .string ⟨#[]⟩], .int .i64 2]) (by simp [results, Try.results21, go_sem, d20, d21]) rfl ⟨by simp only [Bool.false_eq_true, if_false, zN_zero, zT_zero], hb9⟩
  | true =>
    have hrow := HOK.out.1 rfl
    obtain ⟨jb, hjb⟩ : ∃ z, z = zN (joinZ ps rs) := ⟨_, rfl⟩
    obtain ⟨jt, hjt⟩ : ∃ z, z = zT (joinZ ps rs) := ⟨_, rfl⟩
    have HJ := Lib.hid (join_any b ps rs _ (crtN ps rs) wa HSA.out hsys HRA.out hrow (crtN_ok hsys.sep hrow) jb jt hjb hjt)
    have HJB := Lib.hid hjb
    have HJT := Lib.hid hjt
    clear hjb hjt hrow
    go_wp2_with fail
    (with_reducible refine (HJ.out).mono ?_)
    rintro e w2 ⟨rfl, hb2⟩
    have hg2 := (hb2.block _ (lt_of_heap HG.out)).trans HG.out
    have hbw2 := HAB.out.trans (hb2.mono HAB.out.size)
    obtain ⟨x0, x1, xf⟩ := wide_cells hg2
    have m2 := wide_set hg2 jb jt
    have hb9 := below_set2 (p := w.heap.size) hbw2 (Nat.le_refl _) jb jt
    clear hg2 hb2 hbw2
    go_wp2
    obtain ⟨d20, d21, -⟩ := wide_cells m2
    clear m2 x0 x1 xf
    generalize (w2.setCell ⟨w.heap.size, 0, none⟩ (.bool jb)).setCell ⟨w.heap.size, 1, none⟩ (.string jt) = W9 at d20 d21 hb9 ⊢
    rw [HP.out]
    exact bodyPost_ret (v := .tuple #[.agg #[.bool jb, .string jt], .int .i64 0]) (by simp [results, Try.results21, go_sem, d20, d21]) rfl ⟨by simp only [if_true, HJB.out, HJT.out], hb9⟩
end Go.Proofs.Ytnjblppapmflhaa

/- Walks: conversion, and division by the last prime. -/
namespace Go.Proofs.Ytnjblppapmflhaa
set_option linter.all false
open Go.RowKit Go.Shelf Go.WideNum PN
set_option maxHeartbeats 4000000 in
theorem Convert_any (b c : Nat) (ps us rs : List Nat) (rv : Value) (w : World) (hs : SysAt w b ps) (hsys : SysP ps) (hu : SysAt w c us) (husys : SysP us) (hr : w.reads w.heap.size rv (rs.map u32V)) (ok : Bool) (hok : ok = true ↔ RowP ps rs) :
    Calls Try.prog 32 #[.pointer (some ⟨b, 0, none⟩), rv, .pointer (some ⟨c, 0, none⟩)] w (RowE w (if ok then resL us (joinZ ps rs) else []) (if ok then 0 else 2)) := by
  obtain ⟨HPOST, hpost⟩ : ∃ R, R = RowE w (if ok then resL us (joinZ ps rs) else []) (if ok then 0 else 2) := ⟨_, rfl⟩
  rw [← hpost]
  have HP := Lib.hid hpost
  have HNO := Lib.hid (none_sys b ps w hs)
  have HNU := Lib.hid (none_sys c us w hu)
  have HROW := Lib.hid (row_any b ps rs rv w hs hr ok hok)
  have HOK := Lib.hid hok
  have HS := Lib.hid hs
  have HU := Lib.hid hu
  have HR := Lib.hid hr
  obtain ⟨ra, rc, rfl, -⟩ := reads_u32 hr
  clear hpost hs hu hr hok
  go_enter Try.func32, Try.ntmps32
  go_wp2_with fail
  (with_reducible refine (HNO.out).mono ?_)
  rintro e w1 ⟨rfl, rfl⟩
  go_wp2_with fail
  (with_reducible refine (HNU.out).mono ?_)
  rintro e w1 ⟨rfl, rfl⟩
  go_wp2_with fail
  (with_reducible refine (HROW.out).mono ?_)
  rintro e w1 ⟨rfl, rfl⟩
  cases ok with
  | false =>
    go_wp2
    rw [HP.out]
    exact RowE.nil 2 (Below.refl _ _)
  | true =>
    have hrow := HOK.out.1 rfl
    obtain ⟨jb, hjb⟩ : ∃ z, z = zN (joinZ ps rs) := ⟨_, rfl⟩
    obtain ⟨jt, hjt⟩ : ∃ z, z = zT (joinZ ps rs) := ⟨_, rfl⟩
    have HJ := Lib.hid (join_any b ps rs _ (crtN ps rs) w.drew HS.out hsys HR.out hrow (crtN_ok hsys.sep hrow) jb jt hjb hjt)
    have hsp := fun W h => split_any c us (joinZ ps rs) W h husys.sep husys.2.1 (inR_joinZ hsys.sep hsys.2.1)
    rw [← hjb, ← hjt] at hsp
    have HSP : Hid (∀ W, SysAt W c us → Calls Try.prog 53 #[.pointer (some ⟨c, 0, none⟩), .agg #[.bool jb, .string jt]] W (RowRet W (resL us (joinZ ps rs)))) := hsp
    clear hjb hjt hrow hsp
    go_wp2_with fail
    refine wp_region_late (fun _ => True) (fun _ => false) (by kernel_rfl) trivial (fun hHeld => ?_)
    refine wpAnyD_take 0 (v := ?_) (by kernel_rfl) (by kernel_rfl) rfl (by kernel_rfl) (by kernel_rfl) (fun _ _ _ h => h) (Or.inl ⟨by rfl, ?_⟩) (by assumption) ?_
    rotate_left
    · (intro wq hSq; (try dsimp only at hSq); go_simp; try with_reducible rfl)
    try simp only [Act.put, List.setIfInBounds_toArray, List.set_cons_zero, List.set_cons_succ]
    refine wpAnyD_take 1 (v := ?_) (by kernel_rfl) (by kernel_rfl) rfl (by kernel_rfl) (by kernel_rfl) (fun _ _ _ h => h) (Or.inl ⟨by rfl, ?_⟩) (by assumption) ?_
    rotate_left
    · (intro wq hSq; (try dsimp only at hSq); go_simp; try with_reducible rfl)
    try simp only [Act.put, List.setIfInBounds_toArray, List.set_cons_zero, List.set_cons_succ]
    refine wpAnyD_take 2 (v := ?_) (by kernel_rfl) (by kernel_rfl) rfl (by kernel_rfl) (by kernel_rfl) (fun _ _ _ h => h) (Or.inl ⟨by rfl, ?_⟩) (by assumption) ?_
    rotate_left
    · (intro wq hSq; (try dsimp only at hSq); go_simp; try with_reducible rfl)
    try simp only [Act.put, List.setIfInBounds_toArray, List.set_cons_zero, List.set_cons_succ]
    refine wpAnyD_take 3 (v := ?_) (by kernel_rfl) (by kernel_rfl) rfl (by kernel_rfl) (by kernel_rfl) (fun _ _ _ h => h) (Or.inl ⟨by rfl, ?_⟩) (by assumption) ?_
    rotate_left
    · (intro wq hSq; (try dsimp only at hSq); go_simp; try with_reducible rfl)
    try simp only [Act.put, List.setIfInBounds_toArray, List.set_cons_zero, List.set_cons_succ]
    refine wpAnyD_take 4 (v := ?_) (by kernel_rfl) (by kernel_rfl) rfl (by kernel_rfl) (by kernel_rfl) (fun _ _ _ h => h) (Or.inl ⟨by rfl, ?_⟩) (by assumption) ?_
    rotate_left
    · (intro wq hSq; (try dsimp only at hSq); go_simp; try with_reducible rfl)
    try simp only [Act.put, List.setIfInBounds_toArray, List.set_cons_zero, List.set_cons_succ]
    refine wpAnyD_take 5 (v := ?_) (by kernel_rfl) (by kernel_rfl) rfl (by kernel_rfl) (by kernel_rfl) (fun _ _ _ h => h) (Or.inl ⟨by rfl, ?_⟩) (by assumption) ?_
    rotate_left
    · (intro wq hSq; (try dsimp only at hSq); go_simp; try with_reducible rfl)
    try simp only [Act.put, List.setIfInBounds_toArray, List.set_cons_zero, List.set_cons_succ]
    refine wpAnyD_take 6 (v := ?_) (by kernel_rfl) (by kernel_rfl) rfl (by kernel_rfl) (by kernel_rfl) (fun _ _ _ h => h) (Or.inl ⟨by rfl, ?_⟩) (by assumption) ?_
    rotate_left
    · (intro wq hSq; (try dsimp only at hSq); go_simp; try with_reducible rfl)
    try simp only [Act.put, List.setIfInBounds_toArray, List.set_cons_zero, List.set_cons_succ]
    refine wpAnyD_keep 7 (by kernel_rfl) rfl (fun K hK => ?_)
    go_simp
    go_at_call 54
    (with_reducible refine (HJ.out).mono ?_)
    rintro e w2 ⟨rfl, hb2⟩
    have HB2 : Hid (Below w.heap.size w w2) := ((Below.refl w.heap.size w).drew).trans hb2
    refine hK.out _ _ trivial (fun hHeld3 => ?_)
    clear hK K hHeld hb2
    try simp only [Act.put, List.setIfInBounds_toArray, List.set_cons_zero, List.set_cons_succ]
    refine wpAnyD_keep 8 (by kernel_rfl) rfl (fun K hK => ?_)
    go_simp
    go_at_call 53
    (with_reducible refine (HSP.out _ (HU.out.below HB2.out)).mono ?_)
    rintro e w3 hr
    obtain ⟨v3, rfl, ho3, hb3⟩ := hr
    have HR3 : Hid (RowRet w (resL us (joinZ ps rs)) (.returned v3) w3) := RowRet.back ⟨v3, rfl, ho3, hb3⟩ HB2.out
    refine hK.out _ _ trivial (fun hHeld4 => ?_)
    obtain ⟨va, vc, rfl, -⟩ := ho3.at_
    clear hK K hHeld3 ho3 hb3
    try simp only [Act.put, List.setIfInBounds_toArray, List.set_cons_zero, List.set_cons_succ]
    refine wpAnyD_takeW 9 (v := ?_) (by kernel_rfl) rfl (by kernel_rfl) (by kernel_rfl) (fun _ _ _ h => h) (Or.inl ⟨by rfl, ?_⟩) ?_
    rotate_left
    · (intro wq hSq; (try dsimp only at hSq); go_simp; try with_reducible rfl)
    try simp only [Act.put, List.setIfInBounds_toArray, List.set_cons_zero, List.set_cons_succ]
    refine wpAnyD_takeW 10 (v := ?_) (by kernel_rfl) rfl (by kernel_rfl) (by kernel_rfl) (fun _ _ _ h => h) (Or.inl ⟨by rfl, ?_⟩) ?_
    rotate_left
    · (intro wq hSq; (try dsimp only at hSq); go_simp; try with_reducible rfl)
    try simp only [Act.put, List.setIfInBounds_toArray, List.set_cons_zero, List.set_cons_succ]
    refine wpAnyD_end (by kernel_rfl) ?_
    go_wp2
    rw [HP.out]
    exact RowE.of HR3.out 0
/-- The last prime, the last residue. -/
def lastP (ps : List Nat) : Nat := ps.getD (ps.length - 1) 0
/-- A row, an integer and an error. -/
def DropE (w : World) (l : List Nat) (d E : Int) (e : Ending) (w' : World) : Prop := ∃ v, e = .returned (.tuple #[v, .int .i64 d, .int .i64 E]) ∧ w'.owns w.heap.size 23 1 v l.length (l.map u32V) ∧ Below w.heap.size w w'
def dropD (ps rs : List Nat) : Int := balI (lastP rs) (lastP ps)
def dropF (ps rs : List Nat) (ok : Bool) : List Nat × Int × Int :=
  if ok then (if ps.length = 1 then ([], 0, 9) else (resL (ps.take (ps.length - 1)) ((joinZ ps rs - dropD ps rs) / (lastP ps : Nat)), dropD ps rs, 0)) else ([], 0, 2)
theorem last_get {ps : List Nat} (h : 1 ≤ ps.length) : ps[ps.length - 1]? = some (lastP ps) := by
  have h1 : ps.length - 1 < ps.length := by omega
  have h2 : ps[ps.length - 1]? = some (ps[ps.length - 1]) := List.getElem?_eq_getElem h1
  unfold lastP
  rw [getD_some h2]; exact h2
theorem SysP.last {ps : List Nat} (h : SysP ps) : Pr (lastP ps) ∧ lastP ps % 2 = 1 ∧ lastP ps ≤ 2147483647 ∧ 3 ≤ lastP ps := by
  have h1 := last_get h.1
  obtain ⟨a, b, c, -⟩ := h.sep _ _ h1
  exact ⟨a, b, c, h.sep.big (List.mem_of_getElem? h1)⟩
theorem RowP.last {ps rs : List Nat} (h : RowP ps rs) (h1 : 1 ≤ ps.length) : lastP rs < lastP ps := by
  have h2 := last_get h1
  have h3 := last_get (ps := rs) (by rw [h.1]; exact h1)
  rw [h.1] at h3
  exact h.2 _ _ _ h2 h3
theorem drop_dvd {ps rs : List Nat} (h : SysP ps) (hr : RowP ps rs) : ((lastP ps : Nat) : Int) ∣ joinZ ps rs - dropD ps rs * ((1 : Nat) : Int) := by
  have h2 := last_get h.1
  have h3 := last_get (ps := rs) (by rw [hr.1]; exact h.1)
  rw [hr.1] at h3
  have h4 := joinZ_cg h.sep hr _ _ _ h2 h3
  have h5 := (balI_cg (lastP rs) (lastP ps)).symm
  have h6 : Cg (lastP ps) (joinZ ps rs) (dropD ps rs) := h4.trans h5
  rwa [show dropD ps rs * ((1 : Nat) : Int) = dropD ps rs by simp]
set_option maxHeartbeats 4000000 in
theorem Drop_any (b : Nat) (ps rs : List Nat) (rv : Value) (w : World) (hs : SysAt w b ps) (hsys : SysP ps) (hr : w.reads w.heap.size rv (rs.map u32V)) (ok : Bool) (hok : ok = true ↔ RowP ps rs) :
    Calls Try.prog 12 #[.pointer (some ⟨b, 0, none⟩), rv] w (DropE w (dropF ps rs ok).1 (dropF ps rs ok).2.1 (dropF ps rs ok).2.2) := by
  obtain ⟨HPOST, hpost⟩ : ∃ R, R = DropE w (dropF ps rs ok).1 (dropF ps rs ok).2.1 (dropF ps rs ok).2.2 := ⟨_, rfl⟩
  rw [← hpost]
  have HP := Lib.hid hpost
  have HNO := Lib.hid (none_sys b ps w hs)
  have HROW := Lib.hid (row_any b ps rs rv w hs hr ok hok)
  cases ok with
  | false =>
    obtain ⟨ra, rc, rfl, -⟩ := reads_u32 hr
    clear hpost hs hr hok
    go_enter Try.func12, Try.ntmps12
    go_wp2_with fail
    (with_reducible refine (HNO.out).mono ?_)
    rintro e w1 ⟨rfl, rfl⟩
    go_wp2_with fail
    (with_reducible refine (HROW.out).mono ?_)
    rintro e w1 ⟨rfl, rfl⟩
    go_wp2
    rw [HP.out]
    exact bodyPost_ret (v := .tuple #[.slice none 0 0, .int .i64 0, .int .i64 2]) (by simp [results, Try.results12, go_sem]) rfl ⟨_, rfl, World.owns_nil _ _ _ _, Below.refl _ _⟩
  | true =>
    have hrow := hok.1 rfl
    have hn1 := hsys.1
    have hl25 := hsys.2.1
    obtain ⟨q1, q2, q3, q4⟩ := hsys.last
    have hrl := hrow.last hn1
    have hlen := hrow.1
    have HS := Lib.hid hs
    have HR := Lib.hid hr
    have HROWP := Lib.hid hrow
    have hgr := last_get (ps := rs) (by rw [hlen]; exact hn1)
    have hgp := last_get hn1
    obtain ⟨lv, iv, h1, h2, -⟩ := hs
    have hbw := lt_of_heap h1
    obtain ⟨c0, -⟩ := five_sys h1
    obtain ⟨pa, pc, rfl, hpc, hpm, hps⟩ := reads_u32 h2
    obtain ⟨ra, rc, rfl, hrc, hrm, hrs⟩ := reads_u32 hr
    obtain ⟨bp, op, rfl, hbpl, dq⟩ := hps _ _ hgp
    obtain ⟨br, or, rfl, hbrl, dr⟩ := hrs _ _ hgr
    obtain ⟨n, hn⟩ : ∃ n, n = ps.length := ⟨_, rfl⟩
    have HN := Lib.hid hn
    rw [hlen, ← hn] at dr hrc HROW ⊢
    rw [← hn] at dq c0 hpc
    have hlen' : rs.length = n := by rw [hlen, hn]
    have HLEN := Lib.hid hlen'
    clear hpost h1 h2 hps hrs hgp hgr hok hn
    by_cases h1 : n = 1
    · subst h1
      clear dq dr c0
      go_enter Try.func12, Try.ntmps12
      go_wp2_with fail
      (with_reducible refine (HNO.out).mono ?_)
      rintro e w1 ⟨rfl, rfl⟩
      go_wp2_with fail
      (with_reducible refine (HROW.out).mono ?_)
      rintro e w1 ⟨rfl, rfl⟩
      go_wp2
      rw [HP.out]
      have : dropF ps rs true = ([], 0, 9) := by unfold dropF; rw [if_pos rfl, if_pos HN.out.symm]
      rw [this]
      exact bodyPost_ret (v := .tuple #[.slice none 0 0, .int .i64 0, .int .i64 9]) (by simp [results, Try.results12, go_sem]) rfl ⟨_, rfl, World.owns_nil _ _ _ _, Below.refl _ _⟩
    · obtain ⟨m, rfl⟩ : ∃ m, n = m + 1 := ⟨n - 1, by have := HN.out; omega⟩
      rw [show m + 1 - 1 = m by omega] at dq dr
      have t1 : ((((m + 1 : Nat) : Int)) == 1) = false := by rw [beq_eq_false_iff_ne]; omega
      have t2 : ((m + 1 : Nat) : Int) - 1 = (m : Int) := by omega
      have t3 : (m : Int) < ((m + 1 : Nat) : Int) := by omega
      have t4 : (m : Int) < (m : Int) + 1 := by omega
      obtain ⟨d, hd⟩ : ∃ d, d = dropD ps rs := ⟨_, rfl⟩
      have hbal := fun W => Balanced_in (lastP rs) (lastP ps) hrl (by omega) q3 W
      have hda := balI_abs hrl
      change ∀ W, Calls Try.prog _ _ W (I64Ok (dropD ps rs) W) at hbal
      change -((lastP ps : Nat) : Int) < dropD ps rs ∧ dropD ps rs < (lastP ps : Nat) ∧ _ at hda
      rw [← hd] at hbal hda
      have hov : ∀ (W : World), SysAt W b ps → W.reads W.heap.size (.slice (some ⟨br, or, none⟩) (m + 1) rc) (rs.map u32V) → Calls Try.prog 41 #[.pointer (some ⟨b, 0, none⟩), .slice (some ⟨br, or, none⟩) (m + 1) rc, .int .i64 d, .int .u32 1] W (RowRet W (overL ps rs d 1)) := fun W h h2 => over_any b ps rs (.slice (some ⟨br, or, none⟩) (m + 1) rc) d 1 W h hsys h2 hrow (by omega) (by omega)
      have hval : overL ps rs d 1 = resL (ps.take m) ((joinZ ps rs - d) / (lastP ps : Nat)) := by
        have h5 := over_eq (t := 1) (d := d) hsys.sep hrow HN.out.symm (by have := last_get hn1; rwa [← HN.out] at this) (joinZ_cg hsys.sep hrow) (by rw [hd]; exact drop_dvd hsys hrow)
        rwa [show joinZ ps rs - d * ((1 : Nat) : Int) = joinZ ps rs - d by simp] at h5
      rw [hval] at hov
      have HBAL := Lib.hid hbal
      have HOV := Lib.hid hov
      have HR' : Hid (w.reads w.heap.size (.slice (some ⟨br, or, none⟩) (m + 1) rc) (rs.map u32V)) := by
        have := HR.out; rwa [HLEN.out] at this
      obtain ⟨x, hx⟩ : ∃ x, x = lastP rs := ⟨_, rfl⟩
      obtain ⟨q, hq⟩ : ∃ x, x = lastP ps := ⟨_, rfl⟩
      rw [← hx] at dr HBAL
      rw [← hq] at dq HBAL
      have HQ := Lib.hid hq
      have HDD := Lib.hid hd
      have HM0 : Hid (m ≠ 0) := by show m ≠ 0; omega
      have hda1 : -9223372036854775808 ≤ d ∧ d < 9223372036854775808 := by omega
      clear hbal hov hval hx hq hd hrow hrl q1 q2 q3 q4 hda h1
      go_enter Try.func12, Try.ntmps12
      go_wp2_with fail
      (with_reducible refine (HNO.out).mono ?_)
      rintro e w1 ⟨rfl, rfl⟩
      go_wp2_with fail
      (with_reducible refine (HROW.out).mono ?_)
      rintro e w1 ⟨rfl, rfl⟩
      go_wp2_with fail
      refine wp_region_late (fun w' => w'.cell? ⟨b, 0, none⟩ = some (.slice (some ⟨bp, op, none⟩) (m + 1) pc) ∧ w'.cell? ⟨bp, op + m, none⟩ = some (.int .u32 (q : Int)) ∧ w'.cell? ⟨br, or + m, none⟩ = some (.int .u32 (x : Int))) (fun _ => false) (by kernel_rfl) ⟨c0, dq, dr⟩ (fun hHeld => ?_)
      refine wpAnyD_take 0 (v := ?_) (by kernel_rfl) (by kernel_rfl) rfl (by kernel_rfl) (by kernel_rfl) (fun _ _ _ h => h) (Or.inl ⟨by rfl, ?_⟩) (by assumption) ?_
      rotate_left
      · (intro wq hSq; (try dsimp only at hSq); go_simp; try with_reducible rfl)
      try simp only [Act.put, List.setIfInBounds_toArray, List.set_cons_zero, List.set_cons_succ]
      refine wpAnyD_take 1 (v := ?_) (by kernel_rfl) (by kernel_rfl) rfl (by kernel_rfl) (by kernel_rfl) (fun _ _ _ h => h) (Or.inl ⟨by rfl, ?_⟩) (by assumption) ?_
      rotate_left
      · (intro wq hSq; (try dsimp only at hSq); go_simp; try with_reducible rfl)
      try simp only [Act.put, List.setIfInBounds_toArray, List.set_cons_zero, List.set_cons_succ]
      refine wpAnyD_take 2 (v := ?_) (by kernel_rfl) (by kernel_rfl) rfl (by kernel_rfl) (by kernel_rfl) (fun _ _ _ h => h) (Or.inl ⟨by rfl, ?_⟩) (by assumption) ?_
      rotate_left
      · (intro wq hSq; (try dsimp only at hSq); go_simp; try with_reducible rfl)
      try simp only [Act.put, List.setIfInBounds_toArray, List.set_cons_zero, List.set_cons_succ]
      refine wpAnyD_take 3 (v := ?_) (by kernel_rfl) (by kernel_rfl) rfl (by kernel_rfl) (by kernel_rfl) (fun _ _ _ h => h) (Or.inl ⟨by rfl, ?_⟩) (by assumption) ?_
      rotate_left
      · (intro wq hSq; (try dsimp only at hSq); go_simp; try with_reducible rfl)
      try simp only [Act.put, List.setIfInBounds_toArray, List.set_cons_zero, List.set_cons_succ]
      refine wpAnyD_take 4 (v := ?_) (by kernel_rfl) (by kernel_rfl) rfl (by kernel_rfl) (by kernel_rfl) (fun _ _ _ h => h) (Or.inl ⟨by rfl, ?_⟩) (by assumption) ?_
      rotate_left
      · (intro wq hSq; (try dsimp only at hSq); go_simp; try with_reducible rfl)
      try simp only [Act.put, List.setIfInBounds_toArray, List.set_cons_zero, List.set_cons_succ]
      refine wpAnyD_take 5 (v := ?_) (by kernel_rfl) (by kernel_rfl) rfl (by kernel_rfl) (by kernel_rfl) (fun _ _ _ h => h) (Or.inl ⟨by rfl, ?_⟩) (by assumption) ?_
      rotate_left
      · (intro wq hSq; (try dsimp only at hSq); go_simp; try with_reducible rfl)
      try simp only [Act.put, List.setIfInBounds_toArray, List.set_cons_zero, List.set_cons_succ]
      refine wpAnyD_take 6 (v := ?_) (by kernel_rfl) (by kernel_rfl) rfl (by kernel_rfl) (by kernel_rfl) (fun _ _ _ h => h) (Or.inl ⟨by rfl, ?_⟩) (by assumption) ?_
      rotate_left
      · (intro wq hSq; (try dsimp only at hSq); go_simp; try with_reducible rfl)
      try simp only [Act.put, List.setIfInBounds_toArray, List.set_cons_zero, List.set_cons_succ]
      refine wpAnyD_take 7 (v := ?_) (by kernel_rfl) (by kernel_rfl) rfl (by kernel_rfl) (by kernel_rfl) (fun _ _ _ h => h) (Or.inl ⟨by rfl, ?_⟩) (by assumption) ?_
      rotate_left
      · (intro wq hSq; (try dsimp only at hSq); go_simp; try with_reducible rfl)
      try simp only [Act.put, List.setIfInBounds_toArray, List.set_cons_zero, List.set_cons_succ]
      refine wpAnyD_take 8 (v := ?_) (by kernel_rfl) (by kernel_rfl) rfl (by kernel_rfl) (by kernel_rfl) (fun _ _ _ h => h) (Or.inl ⟨by rfl, ?_⟩) (by assumption) ?_
      rotate_left
      · (intro wq hSq; (try dsimp only at hSq); go_simp; try with_reducible rfl)
      try simp only [Act.put, List.setIfInBounds_toArray, List.set_cons_zero, List.set_cons_succ]
      refine wpAnyD_take 9 (v := ?_) (by kernel_rfl) (by kernel_rfl) rfl (by kernel_rfl) (by kernel_rfl) (fun _ _ _ h => h) (Or.inl ⟨by rfl, ?_⟩) (by assumption) ?_
      rotate_left
      · (intro wq hSq; (try dsimp only at hSq); go_simp; try with_reducible rfl)
      try simp only [Act.put, List.setIfInBounds_toArray, List.set_cons_zero, List.set_cons_succ]
      refine wpAnyD_take 10 (v := ?_) (by kernel_rfl) (by kernel_rfl) rfl (by kernel_rfl) (by kernel_rfl) (fun _ _ _ h => h) (Or.inl ⟨by rfl, ?_⟩) (by assumption) ?_
      rotate_left
      · (intro wq hSq; (try dsimp only at hSq); go_simp; try with_reducible rfl)
      try simp only [Act.put, List.setIfInBounds_toArray, List.set_cons_zero, List.set_cons_succ]
      refine wpAnyD_take 11 (v := ?_) (by kernel_rfl) (by kernel_rfl) rfl (by kernel_rfl) (by kernel_rfl) (fun _ _ _ h => h) (Or.inl ⟨by rfl, ?_⟩) (by assumption) ?_
      rotate_left
      · (intro wq hSq; (try dsimp only at hSq); go_simp; try with_reducible rfl)
      try simp only [Act.put, List.setIfInBounds_toArray, List.set_cons_zero, List.set_cons_succ]
      refine wpAnyD_keep 12 (by kernel_rfl) rfl (fun K hK => ?_)
      go_simp
      go_at_call 40
      (with_reducible refine (HBAL.out _).mono ?_)
      rintro e w2 ⟨rfl, hb2⟩
      have hb2' : Below w.heap.size w w2 := ((Below.refl w.heap.size w).drew).trans hb2
      refine hK.out _ _ ⟨(hb2'.cell (p := ⟨b, 0, none⟩) hbw).trans c0, (hb2'.cell (p := ⟨bp, op + m, none⟩) hbpl).trans dq, (hb2'.cell (p := ⟨br, or + m, none⟩) hbrl).trans dr⟩ (fun hHeld3 => ?_)
      have HB2 := Lib.hid hb2'
      clear hK K hHeld hb2 hb2' c0 dq dr
      try simp only [Act.put, List.setIfInBounds_toArray, List.set_cons_zero, List.set_cons_succ]
      refine wpAnyD_takeW 13 (v := ?_) (by kernel_rfl) rfl (by kernel_rfl) (by kernel_rfl) (fun _ _ _ h => h) (Or.inl ⟨by rfl, ?_⟩) ?_
      rotate_left
      · (intro wq hSq; (try dsimp only at hSq); go_simp; try with_reducible rfl)
      try simp only [Act.put, List.setIfInBounds_toArray, List.set_cons_zero, List.set_cons_succ]
      refine wpAnyD_takeW 14 (v := ?_) (by kernel_rfl) rfl (by kernel_rfl) (by kernel_rfl) (fun _ _ _ h => h) (Or.inl ⟨by rfl, ?_⟩) ?_
      rotate_left
      · (intro wq hSq; (try dsimp only at hSq); go_simp; try with_reducible rfl)
      try simp only [Act.put, List.setIfInBounds_toArray, List.set_cons_zero, List.set_cons_succ]
      refine wpAnyD_takeW 15 (v := ?_) (by kernel_rfl) rfl (by kernel_rfl) (by kernel_rfl) (fun _ _ _ h => h) (Or.inl ⟨by rfl, ?_⟩) ?_
      rotate_left
      · (intro wq hSq; (try dsimp only at hSq); go_simp; try with_reducible rfl)
      try simp only [Act.put, List.setIfInBounds_toArray, List.set_cons_zero, List.set_cons_succ]
      refine wpAnyD_takeW 16 (v := ?_) (by kernel_rfl) rfl (by kernel_rfl) (by kernel_rfl) (fun _ _ _ h => h) (Or.inl ⟨by rfl, ?_⟩) ?_
      rotate_left
      · (intro wq hSq; (try dsimp only at hSq); go_simp; try with_reducible rfl)
      try simp only [Act.put, List.setIfInBounds_toArray, List.set_cons_zero, List.set_cons_succ]
      refine wpAnyD_takeW 17 (v := ?_) (by kernel_rfl) rfl (by kernel_rfl) (by kernel_rfl) (fun _ _ _ h => h) (Or.inl ⟨by rfl, ?_⟩) ?_
      rotate_left
      · (intro wq hSq; (try dsimp only at hSq); go_simp; try with_reducible rfl)
      try simp only [Act.put, List.setIfInBounds_toArray, List.set_cons_zero, List.set_cons_succ]
      refine wpAnyD_end (by kernel_rfl) ?_
      go_wp2_with fail
      (with_reducible refine (HOV.out _ (HS.out.below HB2.out) ((HR'.out.below HB2.out).mono HB2.out.size)).mono ?_)
      rintro e w3 hr
      obtain ⟨v3, rfl, ho3, hb3⟩ := hr.back HB2.out
      obtain ⟨va, vc, rfl, -⟩ := ho3.at_
      have HO3 := Lib.hid ho3
      have HB3 := Lib.hid hb3
      clear ho3 hb3 hr
      go_wp2
      rw [HP.out]
      have : dropF ps rs true = (resL (ps.take m) ((joinZ ps rs - d) / (lastP ps : Nat)), d, 0) := by
        unfold dropF
        rw [if_pos rfl, ← HN.out, if_neg (by have := HM0.out; omega), HDD.out]
        rfl
      rw [this]
      exact bodyPost_ret (v := .tuple #[.slice va _ vc, .int .i64 d, .int .i64 0]) (by simp [results, Try.results12, go_sem]) rfl ⟨_, rfl, HO3.out, HB3.out⟩
end Go.Proofs.Ytnjblppapmflhaa

/- Walks: division by the last prime of what is left after a multiple. -/
namespace Go.Proofs.Ytnjblppapmflhaa
set_option linter.all false
open Go.RowKit Go.Shelf Go.WideNum PN
def scaleE (ps rs : List Nat) (t : Nat) : Nat := lastP rs * invN (t % lastP ps) (lastP ps) % lastP ps
def scaleD (ps rs : List Nat) (t : Nat) : Int := balI (scaleE ps rs t) (lastP ps)
def scaleF (ps rs : List Nat) (t : Nat) (ok : Bool) : List Nat × Int :=
  if ok then (if t < 1 ∨ 2147483647 < t ∨ t % lastP ps = 0 then ([], 2) else if ps.length = 1 then ([], 9) else (resL (ps.take (ps.length - 1)) ((joinZ ps rs - scaleD ps rs t * t) / (lastP ps : Nat)), 0)) else ([], 2)
theorem scale_gcd {ps : List Nat} (h : SysP ps) {t : Nat} (ht : t % lastP ps ≠ 0) : Nat.gcd (lastP ps) (t % lastP ps) = 1 := by
  obtain ⟨q1, -, -, -⟩ := h.last
  refine q1.cop fun hd => ht ?_
  have := Nat.mod_lt t q1.pos
  exact Nat.eq_zero_of_dvd_of_lt hd this
theorem scale_dvd {ps rs : List Nat} (h : SysP ps) (hr : RowP ps rs) {t : Nat} (ht : t % lastP ps ≠ 0) : ((lastP ps : Nat) : Int) ∣ joinZ ps rs - scaleD ps rs t * (t : Int) := by
  obtain ⟨q1, q2, q3, q4⟩ := h.last
  have h2 := last_get h.1
  have h3 := last_get (ps := rs) (by rw [hr.1]; exact h.1)
  rw [hr.1] at h3
  have h4 := joinZ_cg h.sep hr _ _ _ h2 h3
  obtain ⟨-, -, i3⟩ := invN_spec (show 2 ≤ lastP ps by omega) (by omega) (Nat.mod_lt t q1.pos) (scale_gcd h ht)
  have h5 : Cg (lastP ps) (scaleD ps rs t * (t : Int)) ((lastP rs : Nat) : Int) := by
    have k1 : Cg (lastP ps) (scaleD ps rs t) (((lastP rs : Nat) : Int) * (invN (t % lastP ps) (lastP ps) : Nat)) := by
      refine (balI_cg _ _).trans ?_
      unfold scaleE
      refine Cg.modN.trans ?_
      rw [Int.natCast_mul]
      exact Cg.refl _ _
    have k2 := k1.mul (Cg.modN (m := lastP ps) (a := t)).symm
    refine k2.trans ?_
    rw [Int.mul_assoc, Int.mul_comm ((invN (t % lastP ps) (lastP ps) : Nat) : Int)]
    have k3 := (Cg.refl (lastP ps) ((lastP rs : Nat) : Int)).mul i3
    rwa [Int.mul_one] at k3
  exact h4.trans h5.symm
set_option maxHeartbeats 4000000 in
theorem Scale_any (b : Nat) (ps rs : List Nat) (rv : Value) (t : Nat) (htl : t < 4294967296) (w : World) (hs : SysAt w b ps) (hsys : SysP ps) (hr : w.reads w.heap.size rv (rs.map u32V)) (ok : Bool) (hok : ok = true ↔ RowP ps rs) :
    Calls Try.prog 15 #[.pointer (some ⟨b, 0, none⟩), rv, .int .u32 (t : Int)] w (RowE w (scaleF ps rs t ok).1 (scaleF ps rs t ok).2) := by
  obtain ⟨HPOST, hpost⟩ : ∃ R, R = RowE w (scaleF ps rs t ok).1 (scaleF ps rs t ok).2 := ⟨_, rfl⟩
  rw [← hpost]
  have HP := Lib.hid hpost
  have HNO := Lib.hid (none_sys b ps w hs)
  have HROW := Lib.hid (row_any b ps rs rv w hs hr ok hok)
  cases ok with
  | false =>
    obtain ⟨ra, rc, rfl, -⟩ := reads_u32 hr
    clear hpost hs hr hok
    go_enter Try.func15, Try.ntmps15
    go_wp2_with fail
    (with_reducible refine (HNO.out).mono ?_)
    rintro e w1 ⟨rfl, rfl⟩
    go_wp2_with fail
    (with_reducible refine (HROW.out).mono ?_)
    rintro e w1 ⟨rfl, rfl⟩
    go_wp2
    rw [HP.out]
    exact RowE.nil 2 (Below.refl _ _)
  | true =>
    have hrow := hok.1 rfl
    have hn1 := hsys.1
    have hl25 := hsys.2.1
    obtain ⟨q1, q2, q3, q4⟩ := hsys.last
    have hrl := hrow.last hn1
    have hlen := hrow.1
    have HS := Lib.hid hs
    have HR := Lib.hid hr
    have hgr := last_get (ps := rs) (by rw [hlen]; exact hn1)
    have hgp := last_get hn1
    obtain ⟨lv, iv, h1, h2, -⟩ := hs
    have hbw := lt_of_heap h1
    obtain ⟨c0, -⟩ := five_sys h1
    obtain ⟨pa, pc, rfl, hpc, hpm, hps⟩ := reads_u32 h2
    obtain ⟨ra, rc, rfl, hrc, hrm, hrs⟩ := reads_u32 hr
    obtain ⟨bp, op, rfl, hbpl, dq⟩ := hps _ _ hgp
    obtain ⟨br, or, rfl, hbrl, dr⟩ := hrs _ _ hgr
    obtain ⟨m, hm⟩ : ∃ m, ps.length = m + 1 := ⟨ps.length - 1, by omega⟩
    have HM := Lib.hid hm
    have hlen' : rs.length = m + 1 := by rw [hlen, hm]
    have HLEN := Lib.hid hlen'
    rw [hlen'] at dr hrc HROW ⊢
    rw [hm] at dq c0 hpc
    rw [show m + 1 - 1 = m by omega] at dq dr
    have t1 : ((m + 1 : Nat) : Int) - 1 = (m : Int) := by omega
    have t2 : (m : Int) < ((m + 1 : Nat) : Int) := by omega
    have t3 : (m : Int) < (m : Int) + 1 := by omega
    obtain ⟨q, hq⟩ : ∃ x, x = lastP ps := ⟨_, rfl⟩
    obtain ⟨x, hx⟩ : ∃ x, x = lastP rs := ⟨_, rfl⟩
    rw [← hq] at dq
    rw [← hx] at dr
    have hq3 : 3 ≤ q := by omega
    have hqb : q ≤ 2147483647 := by omega
    have hxq : x < q := by omega
    have n1 : ((q : Int) == 0) = false := by rw [beq_eq_false_iff_ne]; omega
    obtain ⟨tq, htq⟩ : ∃ z, z = t % q := ⟨_, rfl⟩
    have n2 : (t : Int) % (q : Int) = (tq : Int) := by rw [htq]; simp
    have HQ := Lib.hid hq
    have HX := Lib.hid hx
    have HTQ := Lib.hid htq
    have HC0 := Lib.hid c0
    have HDR := Lib.hid dr
    have HSYS := Lib.hid hsys
    have HROWP := Lib.hid hrow
    clear hpost h1 h2 hps hrs hgp hgr hok q1 q2 q3 q4 hrl hlen hlen' hm hq hx htq hsys hrow hr hn1
    by_cases ht1 : t < 1
    · have k1 : (t : Int) < 1 := by omega
      have : scaleF ps rs t true = ([], 2) := by unfold scaleF; rw [if_pos rfl, if_pos (Or.inl ht1)]
      have HV := Lib.hid this
      clear this ht1
      go_enter Try.func15, Try.ntmps15
      go_wp2_with fail
      (with_reducible refine (HNO.out).mono ?_)
      rintro e w1 ⟨rfl, rfl⟩
      go_wp2_with fail
      (with_reducible refine (HROW.out).mono ?_)
      rintro e w1 ⟨rfl, rfl⟩
      go_wp2
      rw [HP.out, HV.out]
      exact RowE.nil 2 (Below.refl _ _)
    · have k1 : ¬ (t : Int) < 1 := by omega
      by_cases ht2 : 2147483647 < t
      · have k2 : (2147483647 : Int) < (t : Int) := by omega
        have : scaleF ps rs t true = ([], 2) := by unfold scaleF; rw [if_pos rfl, if_pos (Or.inr (Or.inl ht2))]
        have HV := Lib.hid this
        clear this ht1 ht2
        go_enter Try.func15, Try.ntmps15
        go_wp2_with fail
        (with_reducible refine (HNO.out).mono ?_)
        rintro e w1 ⟨rfl, rfl⟩
        go_wp2_with fail
        (with_reducible refine (HROW.out).mono ?_)
        rintro e w1 ⟨rfl, rfl⟩
        go_wp2
        rw [HP.out, HV.out]
        exact RowE.nil 2 (Below.refl _ _)
      · have k2 : ¬ (2147483647 : Int) < (t : Int) := by omega
        by_cases ht3 : tq = 0
        · have k3 : ((tq : Int) == 0) = true := by rw [beq_iff_eq]; omega
          have : scaleF ps rs t true = ([], 2) := by unfold scaleF; rw [if_pos rfl, if_pos (Or.inr (Or.inr (by rw [← HQ.out, ← HTQ.out]; exact ht3)))]
          have HV := Lib.hid this
          clear this ht1 ht2 ht3
          go_enter Try.func15, Try.ntmps15
          go_wp2_with fail
          (with_reducible refine (HNO.out).mono ?_)
          rintro e w1 ⟨rfl, rfl⟩
          go_wp2_with fail
          (with_reducible refine (HROW.out).mono ?_)
          rintro e w1 ⟨rfl, rfl⟩
          go_wp2
          rw [HP.out, HV.out]
          exact RowE.nil 2 (Below.refl _ _)
        · have k3 : ((tq : Int) == 0) = false := by rw [beq_eq_false_iff_ne]; omega
          have htm : t % lastP ps ≠ 0 := by rw [← HQ.out, ← HTQ.out]; exact ht3
          have hno : ¬ (t < 1 ∨ 2147483647 < t ∨ t % lastP ps = 0) := by rintro (h | h | h) <;> omega
          by_cases hm0 : m = 0
          · subst hm0
            have dq' : w.cell? ⟨bp, op, none⟩ = some (.int .u32 (q : Int)) := dq
            have dr' : w.cell? ⟨br, or, none⟩ = some (.int .u32 (x : Int)) := dr
            clear dq dr
            have : scaleF ps rs t true = ([], 9) := by unfold scaleF; rw [if_pos rfl, if_neg hno, if_pos HM.out]
            have HV := Lib.hid this
            clear this ht1 ht2 ht3 hno htm
            go_enter Try.func15, Try.ntmps15
            go_wp2_with fail
            (with_reducible refine (HNO.out).mono ?_)
            rintro e w1 ⟨rfl, rfl⟩
            go_wp2_with fail
            (with_reducible refine (HROW.out).mono ?_)
            rintro e w1 ⟨rfl, rfl⟩
            go_wp2
            rw [HP.out, HV.out]
            exact RowE.nil 9 (Below.refl _ _)
          · have k4 : ((m : Int) == 0) = false := by rw [beq_eq_false_iff_ne]; omega
            have htql : tq < q := by rw [HTQ.out]; exact Nat.mod_lt _ (by omega)
            have hgc := scale_gcd HSYS.out htm
            rw [← HQ.out, ← HTQ.out] at hgc
            obtain ⟨i1, i2, -⟩ := invN_spec (show 2 ≤ q by omega) (by omega) htql hgc
            obtain ⟨iv, hiv⟩ : ∃ z, z = invN tq q := ⟨_, rfl⟩
            rw [← hiv] at i1 i2
            obtain ⟨e0, he0⟩ : ∃ z, z = x * iv % q := ⟨_, rfl⟩
            have hel : e0 < q := by rw [he0]; exact Nat.mod_lt _ (by omega)
            obtain ⟨d, hd⟩ : ∃ d, d = balI e0 q := ⟨_, rfl⟩
            have hda := balI_abs hel
            rw [← hd] at hda
            have hsd : scaleD ps rs t = d := by unfold scaleD scaleE; rw [← HQ.out, ← HX.out, ← HTQ.out, ← hiv, ← he0, hd]
            have hc1 := fun W => Inverse_in tq q iv htql (by omega) hqb i1 i2 W
            have hc2 := fun W => Mul_in x iv q hxq i1 (by omega) hqb W
            have hc3 := fun W => Balanced_in e0 q hel (by omega) hqb W
            rw [← he0] at hc2
            rw [← hd] at hc3
            have HC1 := Lib.hid hc1
            have HC2 := Lib.hid hc2
            have HC3 := Lib.hid hc3
            have hval : overL ps rs d t = resL (ps.take m) ((joinZ ps rs - d * t) / (lastP ps : Nat)) :=
              over_eq (t := t) (d := d) HSYS.out.sep HROWP.out HM.out (by have := last_get HSYS.out.1; rwa [HM.out] at this) (joinZ_cg HSYS.out.sep HROWP.out) (by rw [← hsd]; exact scale_dvd HSYS.out HROWP.out htm)
            have hov : ∀ (W : World), SysAt W b ps → W.reads W.heap.size (.slice (some ⟨br, or, none⟩) (m + 1) rc) (rs.map u32V) → Calls Try.prog 41 #[.pointer (some ⟨b, 0, none⟩), .slice (some ⟨br, or, none⟩) (m + 1) rc, .int .i64 d, .int .u32 (t : Int)] W (RowRet W (overL ps rs d t)) := fun W h h2 => over_any b ps rs (.slice (some ⟨br, or, none⟩) (m + 1) rc) d t W h HSYS.out h2 HROWP.out (by omega) htl
            rw [hval] at hov
            have HOV := Lib.hid hov
            have HR' : Hid (w.reads w.heap.size (.slice (some ⟨br, or, none⟩) (m + 1) rc) (rs.map u32V)) := by
              have := HR.out; rwa [HLEN.out] at this
            have : scaleF ps rs t true = (resL (ps.take m) ((joinZ ps rs - d * t) / (lastP ps : Nat)), 0) := by
              unfold scaleF
              rw [if_pos rfl, if_neg hno, HM.out, if_neg (by omega), hsd]
              rfl
            have HV := Lib.hid this
            clear this ht1 ht2 ht3 hno htm hgc hiv he0 hd hsd hc1 hc2 hc3 hval hov hda i2
            go_enter Try.func15, Try.ntmps15
            go_wp2_with fail
            (with_reducible refine (HNO.out).mono ?_)
            rintro e w1 ⟨rfl, rfl⟩
            go_wp2_with fail
            (with_reducible refine (HROW.out).mono ?_)
            rintro e w1 ⟨rfl, rfl⟩
            go_wp2_with fail
            (with_reducible refine (HC1.out _).mono ?_)
            rintro e w2 ⟨rfl, hb2⟩
            have HB2 := Lib.hid hb2
            have dr2 := (hb2.cell (p := ⟨br, or + m, none⟩) hbrl).trans dr
            clear hb2
            go_wp2_with fail
            (with_reducible refine (HC2.out _).mono ?_)
            rintro e w3 ⟨rfl, hb3⟩
            have HB3 := Lib.hid (HB2.out.trans (hb3.mono HB2.out.size))
            clear hb3 dr2
            go_wp2_with fail
            (with_reducible refine (HC3.out _).mono ?_)
            rintro e w4 ⟨rfl, hb4⟩
            have HB4 := Lib.hid (HB3.out.trans (hb4.mono HB3.out.size))
            clear hb4
            go_wp2_with fail
            (with_reducible refine (HOV.out _ (HS.out.below HB4.out) ((HR'.out.below HB4.out).mono HB4.out.size)).mono ?_)
            rintro e w5 hr
            have hr5 := hr.back HB4.out
            obtain ⟨v5, rfl, ho5, hb5⟩ := hr5
            obtain ⟨va, vc, rfl, -⟩ := ho5.at_
            have HO5 := Lib.hid ho5
            have HB5 := Lib.hid hb5
            clear ho5 hb5 hr
            go_wp2
            rw [HP.out, HV.out]
            exact ⟨_, rfl, HO5.out, HB5.out⟩
end Go.Proofs.Ytnjblppapmflhaa
