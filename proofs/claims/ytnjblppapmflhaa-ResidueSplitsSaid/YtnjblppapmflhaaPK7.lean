/- Helpers and walks, in one text. -/
import Derived.Test.YtnjblppapmflhaaPK6
/- Wide integers: helpers and walks, in one text (KC3 KD5 KD6 KD7). -/
/- Plain: what division by the last prime leaves. -/
namespace Go.Proofs.Ytnjblppapmflhaa
set_option linter.all false
open Go.RowKit PN
theorem balZ_cg (x : Int) (m : Nat) : Cg m (balZ x m) x := by
  unfold balZ
  split
  · have h := (Cg.of_mod (m := m) (a := x)).sub Cg.zero
    rwa [Int.sub_zero] at h
  · exact Cg.of_mod
theorem Cg.of_dvd {m n : Nat} {a b : Int} (h : Cg n a b) (hd : m ∣ n) : Cg m a b := Int.dvd_trans (Int.natCast_dvd_natCast.2 hd) h
theorem dvd_prodL {l : List Nat} {p : Nat} (hp : p ∈ l) : p ∣ prodL l := by
  obtain ⟨a, b, hab⟩ := List.append_of_mem hp
  rw [hab, prodL_append]
  exact ⟨prodL a * prodL b, by simp [prodL, Nat.mul_left_comm]⟩
theorem balI_cg (a n : Nat) : Cg n (balI a n) (a : Int) := by
  unfold balI
  split
  · have h := (Cg.refl n (a : Int)).sub Cg.zero
    rwa [Int.sub_zero] at h
  · exact Cg.refl _ _
theorem balI_abs {a n : Nat} (h : a < n) : -(n : Int) < balI a n ∧ balI a n < n ∧ 2 * (balI a n).natAbs ≤ n := by
  unfold balI
  split <;> omega
theorem toNat_cg {x : Int} {p : Nat} (hp : 0 < p) : Cg p (((x % (p : Int)).toNat : Nat) : Int) x := by
  have h0 := Int.emod_nonneg x (show (p : Int) ≠ 0 by omega)
  have e : (((x % (p : Int)).toNat : Nat) : Int) = x % (p : Int) := by omega
  rw [e]
  exact Cg.of_mod
/-- The residues of the quotient. -/
theorem over_eq {ps rs : List Nat} (hs : Sep ps) (hr : RowP ps rs) {m q t : Nat} {z d : Int} (hl : ps.length = m + 1) (hq : ps[m]? = some q) (hz : ∀ i p r : Nat, ps[i]? = some p → rs[i]? = some r → Cg p z (r : Int)) (hd : (q : Int) ∣ z - d * t) :
    overL ps rs d t = resL (ps.take m) ((z - d * t) / q) := by
  apply List.ext_getElem?
  intro i
  unfold overL resL
  rw [show ps.length - 1 = m by omega]
  rcases Nat.lt_or_ge i m with hi | hi
  · have hip : i < ps.length := by omega
    have hir : i < rs.length := by rw [hr.1]; omega
    obtain ⟨p, hp⟩ : ∃ p, ps[i]? = some p := ⟨ps[i], List.getElem?_eq_getElem hip⟩
    obtain ⟨r, hri⟩ : ∃ r, rs[i]? = some r := ⟨rs[i], List.getElem?_eq_getElem hir⟩
    rw [List.getElem?_map, List.getElem?_map, List.getElem?_range hi, List.getElem?_take, if_pos hi, hp]
    simp only [Option.map_some, getD_some hp, getD_some hq, getD_some hri]
    congr 1
    obtain ⟨p1, p2, p3, p4⟩ := hs i p hp
    obtain ⟨q1, _, _, q4⟩ := hs m q hq
    have hne : p ≠ q := fun e => q4 (by rw [← e]; exact List.mem_of_getElem? (by rw [List.getElem?_take, if_pos hi]; exact hp))
    have hcop := pr_cop p1 q1 hne
    have hgq : Nat.gcd p (q % p) = 1 := by
      rw [Nat.gcd_comm, ← Nat.gcd_rec]
      exact hcop
    have hp2 := p1.1
    obtain ⟨i1, i2, i3⟩ := invN_spec hp2 (show p < 4294967296 by omega) (Nat.mod_lt q (by omega)) hgq
    obtain ⟨y, hy⟩ := hd
    have hq0 : (q : Int) ≠ 0 := by have := q1.1; omega
    have ey : (z - d * t) / q = y := by rw [hy]; exact Int.mul_ediv_cancel_left _ hq0
    rw [ey]
    have c1 : Cg p ((overD p q r t d : Nat) : Int) (((r : Int) - d * t) * (invN (q % p) p : Nat)) := by
      unfold overD
      refine Cg.modN.trans ?_
      rw [Int.natCast_mul]
      refine Cg.mul ?_ (Cg.refl _ _)
      refine Cg.modN.trans ?_
      have h5 : (d % (p : Int)).toNat * (t % p) % p < p := Nat.mod_lt _ (by omega)
      rw [show ((r + p - (d % (p : Int)).toNat * (t % p) % p : Nat) : Int) = ((r : Int) - (((d % (p : Int)).toNat * (t % p) % p : Nat) : Int)) + p by omega]
      have h6 : Cg p ((((d % (p : Int)).toNat * (t % p) % p : Nat) : Int)) (d * t) := by
        refine Cg.modN.trans ?_
        rw [Int.natCast_mul]
        exact (toNat_cg (by omega)).mul Cg.modN
      have h7 := ((Cg.refl p (r : Int)).sub h6).add Cg.zero
      rwa [Int.add_zero] at h7
    have c2 : Cg p ((q : Int) * (invN (q % p) p : Nat)) 1 := ((Cg.modN (m := p) (a := q)).symm.mul (Cg.refl _ _)).trans i3
    have c3 : Cg p y (((r : Int) - d * t) * (invN (q % p) p : Nat)) := by
      have h8 : Cg p (z - d * t) ((r : Int) - d * t) := (hz i p r hp hri).sub (Cg.refl _ _)
      rw [hy] at h8
      have h9 := h8.mul (Cg.refl p ((invN (q % p) p : Nat) : Int))
      have h10 := (c2.mul (Cg.refl p y)).symm
      rw [Int.one_mul] at h10
      rw [Int.mul_right_comm] at h9
      exact h10.trans h9
    refine Cg.eqN ((c1.trans c3.symm).trans (toNat_cg (by omega)).symm) (Nat.mod_lt _ (by omega)) ?_
    have h0 := Int.emod_nonneg y (show (p : Int) ≠ 0 by omega)
    have h1 := Int.emod_lt_of_pos y (show (0 : Int) < p by omega)
    omega
  · rw [List.getElem?_eq_none (by simpa using hi), List.getElem?_eq_none (by simp; omega)]
/-- The integer of a row. -/
def crtN (ps rs : List Nat) : Nat := mvL ps (digL ps rs ps.length)
def joinZ (ps rs : List Nat) : Int := balZ (crtN ps rs : Nat) (prodL ps : Nat)
theorem crtN_ok {ps rs : List Nat} (hs : Sep ps) (hr : RowP ps rs) : IsCrt ps rs (crtN ps rs) := garner_all hs hr
theorem joinZ_cg {ps rs : List Nat} (hs : Sep ps) (hr : RowP ps rs) : ∀ i p r : Nat, ps[i]? = some p → rs[i]? = some r → Cg p (joinZ ps rs) (r : Int) := fun i p r hp hri =>
  ((balZ_cg _ _).of_dvd (dvd_prodL (List.mem_of_getElem? hp))).trans ((crtN_ok hs hr).2 i p r hp hri)
theorem prodL_pos' {ps : List Nat} (hs : Sep ps) : 0 < prodL ps := prodL_pos fun p hp => (hs.mem hp).1.pos
theorem prodL_le25 {ps : List Nat} (hs : Sep ps) (hl : ps.length ≤ 25) : prodL ps ≤ 4294967296 ^ 25 :=
  Nat.le_trans (prodL_lt (fun p hp => by have := (hs.mem hp).2.2; omega)) (Nat.pow_le_pow_right (by omega) hl)
theorem inR_prodL {ps : List Nat} (hs : Sep ps) (hl : ps.length ≤ 25) : InR ((prodL ps : Nat) : Int) := by
  unfold InR; rw [Int.natAbs_natCast, lim_words]
  exact Nat.lt_of_le_of_lt (prodL_le25 hs hl) (Nat.pow_lt_pow_right (by omega) (by omega))
theorem joinZ_abs {ps rs : List Nat} (hs : Sep ps) : (joinZ ps rs).natAbs < prodL ps := by
  have := balZ_abs ((crtN ps rs : Nat) : Int) ((prodL ps : Nat) : Int) (by have := prodL_pos' hs; omega)
  unfold joinZ
  omega
theorem inR_joinZ {ps rs : List Nat} (hs : Sep ps) (hl : ps.length ≤ 25) : InR (joinZ ps rs) := by
  have := joinZ_abs (rs := rs) hs
  have h2 := inR_prodL hs hl
  unfold InR at *
  omega
end Go.Proofs.Ytnjblppapmflhaa

/- Walks: the methods of a system. -/
namespace Go.Proofs.Ytnjblppapmflhaa
set_option linter.all false
open Go.RowKit Go.Shelf Go.WideNum PN
/-- A row that was made, and an error. -/
def RowE (w : World) (l : List Nat) (E : Int) (e : Ending) (w' : World) : Prop := ∃ v, e = .returned (.tuple #[v, .int .i64 E]) ∧ w'.owns w.heap.size 23 1 v l.length (l.map u32V) ∧ Below w.heap.size w w'
theorem RowE.nil {w w' : World} (E : Int) (h : Below w.heap.size w w') : RowE w [] E (.returned (.tuple #[.slice none 0 0, .int .i64 E])) w' := ⟨_, rfl, World.owns_nil _ _ _ _, h⟩
theorem RowE.of {w w1 : World} {l : List Nat} {v : Value} (h : RowRet w l (.returned v) w1) (E : Int) : RowE w l E (.returned (.tuple #[v, .int .i64 E])) w1 := by
  obtain ⟨v', hv, h1, h2⟩ := h
  injection hv with hv
  subst hv
  exact ⟨_, rfl, h1, h2⟩
theorem RowRet.back {w w1 w2 : World} {l : List Nat} {e : Ending} (h : RowRet w1 l e w2) (hb : Below w.heap.size w w1) : RowRet w l e w2 := by
  obtain ⟨v, rfl, h1, h2⟩ := h
  exact ⟨v, rfl, h1.mono hb.size, hb.trans (h2.mono hb.size)⟩
theorem RowRet.shape {w w1 : World} {l : List Nat} {e : Ending} (h : RowRet w l e w1) : ∃ a n c, e = .returned (.slice a n c) := by
  obtain ⟨v, rfl, h1, -⟩ := h
  obtain ⟨a, c, rfl, -⟩ := h1.at_
  exact ⟨a, _, c, rfl⟩
def splitF (ps : List Nat) (n : Bool) (s : ByteArray) : List Nat × Int := if validB n s then (resL ps (zV n s), 0) else ([], 2)
set_option maxHeartbeats 4000000 in
theorem Split_any (b : Nat) (ps : List Nat) (n : Bool) (s : ByteArray) (hsz : s.size ≤ maxLen) (w : World) (hs : SysAt w b ps) (hsys : SysP ps) :
    Calls Try.prog 20 #[.pointer (some ⟨b, 0, none⟩), .agg #[.bool n, .string s]] w (RowE w (splitF ps n s).1 (splitF ps n s).2) := by
  obtain ⟨HPOST, hpost⟩ : ∃ R, R = RowE w (splitF ps n s).1 (splitF ps n s).2 := ⟨_, rfl⟩
  rw [← hpost]
  have HP := Lib.hid hpost
  have HNO : Hid (∀ W, SysAt W b ps → Calls Try.prog 38 #[.pointer (some ⟨b, 0, none⟩)] W fun e w' => e = .returned (.bool false) ∧ W = w') := fun W h => none_sys b ps W h
  obtain ⟨ok, hok⟩ : ∃ ok, ok = validB n s := ⟨_, rfl⟩
  have HV : Hid (∀ W : World, Calls Try.prog 52 #[.agg #[.bool n, .string s]] W fun e w' => e = .returned (.bool ok) ∧ Below W.heap.size W w') := fun W => by rw [hok]; exact Valid_any n s hsz W
  have HSYS := Lib.hid hs
  have hab : Below w.heap.size w (w.alloc (.cells #[.bool n, .string s] 38)) := (Below.refl _ _).alloc (Nat.le_refl _) _
  have hg : (w.alloc (.cells #[.bool n, .string s] 38)).heap[w.heap.size]? = some (.cells #[.bool n, .string s] 38) := heap_alloc_new w _
  have HSA := Lib.hid (hs.below hab)
  have HOK := Lib.hid hok
  clear hpost hs hok
  go_enter Try.func20, Try.ntmps20
  go_upto_region 1 with (fail)
  generalize w.alloc (.cells #[.bool n, .string s] 38) = wa at hab hg HSA ⊢
  have HAB := Lib.hid hab
  obtain ⟨x0, x1, -⟩ := wide_cells hg
  have HG := Lib.hid hg
  clear hab hg
  go_wp2_with fail
  (with_reducible refine (HNO.out _ HSA.out).mono ?_)
  rintro e w1 ⟨rfl, rfl⟩
  go_wp2_with fail
  (with_reducible refine (HV.out _).mono ?_)
  rintro e w2 ⟨rfl, hb2⟩
  have HB2 := Lib.hid (HAB.out.trans (hb2.mono HAB.out.size))
  have HS2 := Lib.hid (HSA.out.below hb2)
  have HSZ := Lib.hid hb2.size
  have hg2 := (hb2.block _ (lt_of_heap HG.out)).trans HG.out
  obtain ⟨y0, y1, -⟩ := wide_cells hg2
  clear hb2 x0 x1 hg2
  cases ok with
  | false =>
    go_wp2
    rw [HP.out]
    have : splitF ps n s = ([], 2) := by unfold splitF; rw [← HOK.out]; rfl
    rw [this]
    exact RowE.nil 2 HB2.out
  | true =>
    obtain ⟨r1, r2, r3⟩ := z_of_valid HOK.out.symm
    have hsp := fun W h => split_any b ps (zV n s) W h hsys.sep hsys.2.1 r1
    rw [r2, r3] at hsp
    have HSP : Hid (∀ W, SysAt W b ps → Calls Try.prog 53 #[.pointer (some ⟨b, 0, none⟩), .agg #[.bool n, .string s]] W (RowRet W (resL ps (zV n s)))) := hsp
    clear hsp r1 r2 r3
    go_wp2_with fail
    refine wp_region_late (fun w' => w'.cell? ⟨w.heap.size, 0, none⟩ = some (.bool n) ∧ w'.cell? ⟨w.heap.size, 1, none⟩ = some (.string s)) (fun _ => false) (by kernel_rfl) ⟨y0, y1⟩ (fun hHeld => ?_)
    refine wpAnyD_take 0 (v := ?_) (by kernel_rfl) (by kernel_rfl) rfl (by kernel_rfl) (by kernel_rfl) (fun _ _ _ h => h) (Or.inl ⟨by rfl, ?_⟩) (by assumption) ?_
    rotate_left
    · (intro wq hSq; (try dsimp only at hSq); go_simp; try with_reducible rfl)
    try simp only [Act.put, List.setIfInBounds_toArray, List.set_cons_zero, List.set_cons_succ]
    refine wpAnyD_take 1 (v := ?_) (by kernel_rfl) (by kernel_rfl) rfl (by kernel_rfl) (by kernel_rfl) (fun _ _ _ h => h) (Or.inl ⟨by rfl, ?_⟩) (by assumption) ?_
    rotate_left
    · (intro wq hSq; (try dsimp only at hSq); go_simp; try with_reducible rfl)
    try simp only [Act.put, List.setIfInBounds_toArray, List.set_cons_zero, List.set_cons_succ]
    refine wpAnyD_take 2 (v := ?_) (by kernel_rfl) (by kernel_rfl) rfl (by kernel_rfl) (by kernel_rfl) (fun _ _ _ h => h) (Or.inl ⟨by rfl, ?_⟩) (by assumption) ?_
    rotate_left
    · (intro wq hSq; (try dsimp only at hSq); go_simp; try with_reducible rfl)
    try simp only [Act.put, List.setIfInBounds_toArray, List.set_cons_zero, List.set_cons_succ]
    refine wpAnyD_take 3 (v := ?_) (by kernel_rfl) (by kernel_rfl) rfl (by kernel_rfl) (by kernel_rfl) (fun _ _ _ h => h) (Or.inl ⟨by rfl, ?_⟩) (by assumption) ?_
    rotate_left
    · (intro wq hSq; (try dsimp only at hSq); go_simp; try with_reducible rfl)
    try simp only [Act.put, List.setIfInBounds_toArray, List.set_cons_zero, List.set_cons_succ]
    refine wpAnyD_keep 4 (by kernel_rfl) rfl (fun K hK => ?_)
    go_simp
    go_at_call 53
    (with_reducible refine (HSP.out _ HS2.out.drew).mono ?_)
    rintro e w3 hr
    obtain ⟨v3, rfl, ho3, hb3⟩ := hr
    have HR3 : Hid (RowRet w (resL ps (zV n s)) (.returned v3) w3) := RowRet.back ⟨v3, rfl, ho3, hb3⟩ HB2.out.drew
    have hlt := lt_of_heap HG.out
    have hlt2 : w.heap.size < w2.drew.heap.size := by have := HSZ.out; show w.heap.size < w2.heap.size; omega
    refine hK.out _ _ ⟨(hb3.cell (p := ⟨w.heap.size, 0, none⟩) hlt2).trans y0, (hb3.cell (p := ⟨w.heap.size, 1, none⟩) hlt2).trans y1⟩ (fun hHeld3 => ?_)
    obtain ⟨va, vc, rfl, -⟩ := ho3.at_
    clear hK K hHeld ho3 hb3 y0 y1 hlt hlt2
    try simp only [Act.put, List.setIfInBounds_toArray, List.set_cons_zero, List.set_cons_succ]
    refine wpAnyD_takeW 5 (v := ?_) (by kernel_rfl) rfl (by kernel_rfl) (by kernel_rfl) (fun _ _ _ h => h) (Or.inl ⟨by rfl, ?_⟩) ?_
    rotate_left
    · (intro wq hSq; (try dsimp only at hSq); go_simp; try with_reducible rfl)
    try simp only [Act.put, List.setIfInBounds_toArray, List.set_cons_zero, List.set_cons_succ]
    refine wpAnyD_takeW 6 (v := ?_) (by kernel_rfl) rfl (by kernel_rfl) (by kernel_rfl) (fun _ _ _ h => h) (Or.inl ⟨by rfl, ?_⟩) ?_
    rotate_left
    · (intro wq hSq; (try dsimp only at hSq); go_simp; try with_reducible rfl)
    try simp only [Act.put, List.setIfInBounds_toArray, List.set_cons_zero, List.set_cons_succ]
    refine wpAnyD_end (by kernel_rfl) ?_
    go_wp2
    rw [HP.out]
    have : splitF ps n s = (resL ps (zV n s), 0) := by unfold splitF; rw [← HOK.out]; rfl
    rw [this]
    exact RowE.of HR3.out 0
theorem owns_empty (W : World) : (W.alloc (.cells #[] 23)).owns W.heap.size 23 1 (.slice (some ⟨W.heap.size, 0, none⟩) 0 0) 0 [] :=
  ⟨by simp, .inr ⟨W.heap.size, 0, #[], (0, 0), rfl, Nat.le_refl _, heap_alloc_new W _, okFz_zero _, Nat.le_refl _, Nat.zero_le _, by simp, by simp⟩⟩
theorem u32_one (l : List Nat) : ∀ u ∈ l.map u32V, u.oneCell' = true := fun u hu => by
  obtain ⟨x, -, rfl⟩ := List.mem_map.1 hu
  rfl
set_option maxHeartbeats 4000000 in
theorem Clone_any (ps : List Nat) (v : Value) (w : World) (hr : w.reads w.heap.size v (ps.map u32V)) (hne : ps ≠ []) (hlen : ps.length ≤ 1000) :
    Calls Try.prog 66 #[v] w (RowRet w ps) := by
  obtain ⟨HPOST, hpost⟩ : ∃ R, R = RowRet w ps := ⟨_, rfl⟩
  rw [← hpost]
  have HP := Lib.hid hpost
  clear hpost
  have hl : 0 < ps.length := List.length_pos_iff.2 hne
  obtain ⟨a, c, rfl, hc, hcm, hsh⟩ := reads_u32 hr
  obtain ⟨bb, oo, rfl, hbl, -⟩ := hsh 0 ps[0] (List.getElem?_eq_getElem hl)
  have hra := Lib.hid (hr.alloc (Nat.le_refl _) (.cells #[] 23))
  have HOE := Lib.hid (owns_empty w)
  have heq : ∀ W : World, (binOp .eql 22 (.slice (some ⟨bb, oo, none⟩) ps.length c) (.slice none 0 0)).run Try.prog W = .ok (.bool false) W := fun W => by kernel_rfl
  have hml : (ps.map u32V).length = ps.length := by simp
  obtain ⟨i0, hi0, hiz, hiz1, hizb⟩ := info_parts infoU32
  clear hsh hr
  go_enter Try.func66, Try.ntmps66
  go_wp2_with (at_builtin; refine wpList_append_reads _ rfl (.tmp 5) (.tmp 6) 22 rfl w.heap.size 23 i0 (.int .u32 0) 4 Try.underlying22 hi0 hiz hiz1 hizb rfl (.slice (some ⟨w.heap.size, 0, none⟩) 0 0) 0 [] rfl HOE.out w.heap.size (.slice (some ⟨bb, oo, none⟩) ps.length c) (ps.map u32V) rfl hra.out (u32_one ps) (by rw [hml]; unfold maxLen; omega) (by rw [hml]; omega) (by simp) ?_; intro v' w' ho hg; have HO := Lib.hid ho; have HG := Lib.hid hg; obtain ⟨va, vc, rfl, -⟩ := ho.at_; clear ho hg)
  rw [HP.out]
  refine ⟨_, rfl, ?_, ?_⟩
  · have := HO.out
    rwa [List.nil_append, Nat.zero_add, hml] at this
  · have h1 : Below w.heap.size w (w.alloc (.cells #[] 23)) := (Below.refl _ _).alloc (Nat.le_refl _) _
    exact h1.trans (below_grown HOE.out HG.out w.heap.size (Nat.le_refl _) (by simp))
set_option maxHeartbeats 4000000 in
theorem Moduli_any (b : Nat) (ps : List Nat) (w : World) (hs : SysAt w b ps) (hsys : SysP ps) :
    Calls Try.prog 36 #[.pointer (some ⟨b, 0, none⟩)] w (RowRet w ps) := by
  obtain ⟨HPOST, hpost⟩ : ∃ R, R = RowRet w ps := ⟨_, rfl⟩
  rw [← hpost]
  have HP := Lib.hid hpost
  have HNO : Hid (Calls Try.prog 38 #[.pointer (some ⟨b, 0, none⟩)] w fun e w' => e = .returned (.bool false) ∧ w = w') := none_sys b ps w hs
  obtain ⟨lv, iv, h1, h2, -⟩ := hs
  obtain ⟨c0, -⟩ := five_sys h1
  have hcl := Clone_any ps lv w h2 (fun h => by have := hsys.1; rw [h] at this; simp at this) (by have := hsys.2.1; omega)
  obtain ⟨pa, pc, rfl, -⟩ := reads_u32 h2
  have HCL := Lib.hid hcl
  clear h1 h2 hpost hcl hsys
  go_enter Try.func36, Try.ntmps36
  go_wp2_with fail
  (with_reducible refine (HNO.out).mono ?_)
  rintro e w1 ⟨rfl, rfl⟩
  go_wp2_with fail
  (with_reducible refine (HCL.out).mono ?_)
  rintro e w2 hr
  obtain ⟨va, vn, vc, rfl⟩ := hr.shape
  have HR := Lib.hid hr
  clear hr
  go_wp2
  rw [HP.out]
  exact HR.out
/-- What a form stands for. -/
def FormR (w : World) (z : Int) (e : Ending) (w' : World) : Prop := e = .returned (.agg #[.bool (zN z), .string (zT z)]) ∧ Below w.heap.size w w'
set_option maxHeartbeats 4000000 in
theorem Product_any (b : Nat) (ps : List Nat) (w : World) (hs : SysAt w b ps) :
    Calls Try.prog 27 #[.pointer (some ⟨b, 0, none⟩)] w (FormR w (prodL ps : Nat)) := by
  obtain ⟨HPOST, hpost⟩ : ∃ R, R = FormR w (prodL ps : Nat) := ⟨_, rfl⟩
  rw [← hpost]
  have HP := Lib.hid hpost
  have HNO : Hid (∀ W, SysAt W b ps → Calls Try.prog 38 #[.pointer (some ⟨b, 0, none⟩)] W fun e w' => e = .returned (.bool false) ∧ W = w') := fun W h => none_sys b ps W h
  have HSA := Lib.hid (hs.alloc (.cells #[.bool false, .string ⟨#[]⟩] 38))
  obtain ⟨qb, hqb⟩ : ∃ z, z = zN ((prodL ps : Nat) : Int) := ⟨_, rfl⟩
  obtain ⟨qt, hqt⟩ : ∃ z, z = zT ((prodL ps : Nat) : Int) := ⟨_, rfl⟩
  have HQB := Lib.hid hqb
  have HQT := Lib.hid hqt
  obtain ⟨lv, iv, h1, -, -⟩ := hs
  obtain ⟨-, c1, c2, -⟩ := five_sys h1
  rw [← hqb] at c1
  rw [← hqt] at c2
  have hbw := lt_of_heap h1
  have hab : Below w.heap.size w (w.alloc (.cells #[.bool false, .string ⟨#[]⟩] 38)) := (Below.refl _ _).alloc (Nat.le_refl _) _
  have hg : (w.alloc (.cells #[.bool false, .string ⟨#[]⟩] 38)).heap[w.heap.size]? = some (.cells #[.bool false, .string ⟨#[]⟩] 38) := heap_alloc_new w _
  have k1 := (hab.cell (p := ⟨b, 1, none⟩) hbw).trans c1
  have k2 := (hab.cell (p := ⟨b, 2, none⟩) hbw).trans c2
  clear h1 hpost hqb hqt c1 c2
  go_enter Try.func27, Try.ntmps27
  go_upto_region 1 with (fail)
  generalize w.alloc (.cells #[.bool false, .string ⟨#[]⟩] 38) = wa at hab hg HSA k1 k2 ⊢
  obtain ⟨x0, x1, xf⟩ := wide_cells hg
  have m2 := wide_set hg qb qt
  have hb9 := below_set2 (p := w.heap.size) hab (Nat.le_refl _) qb qt
  clear hab hg
  go_wp2_with fail
  (with_reducible refine (HNO.out _ HSA.out).mono ?_)
  rintro e w1 ⟨rfl, rfl⟩
  go_wp2
  obtain ⟨d20, d21, -⟩ := wide_cells m2
  clear m2
  generalize (wa.setCell ⟨w.heap.size, 0, none⟩ (.bool qb)).setCell ⟨w.heap.size, 1, none⟩ (.string qt) = W9 at d20 d21 hb9 ⊢
  rw [HP.out]
  exact bodyPost_ret (v := .agg #[.bool qb, .string qt]) (by simp [results, Try.results27, go_sem, d20, d21]) rfl ⟨by rw [HQB.out, HQT.out], hb9⟩
/-- The integer of a row, and an error. -/
def FormE (w : World) (z : Int) (E : Int) (e : Ending) (w' : World) : Prop := e = .returned (.tuple #[.agg #[.bool (zN z), .string (zT z)], .int .i64 E]) ∧ Below w.heap.size w w'
theorem zT_zero : zT 0 = ⟨#[]⟩ := by kernel_rfl
theorem zN_zero : zN 0 = false := by kernel_rfl
theorem row_any' (b : Nat) (ps rs : List Nat) (rv : Value) (ok : Bool) (hok : ok = true ↔ RowP ps rs) (w W : World) (hs : SysAt W b ps) (hr : w.reads w.heap.size rv (rs.map u32V)) (hb : Below w.heap.size w W) :
    Calls Try.prog 39 #[.pointer (some ⟨b, 0, none⟩), rv] W fun e w' => e = .returned (.bool ok) ∧ W = w' := row_any b ps rs rv W hs ((hr.below hb).mono hb.size) ok hok
set_option maxHeartbeats 4000000 in
theorem Join_any (b : Nat) (ps rs : List Nat) (rv : Value) (w : World) (hs : SysAt w b ps) (hsys : SysP ps) (hr : w.reads w.heap.size rv (rs.map u32V)) (ok : Bool) (hok : ok = true ↔ RowP ps rs) :
    Calls Try.prog 21 #[.pointer (some ⟨b, 0, none⟩), rv] w (FormE w (if ok then joinZ ps rs else 0) (if ok then 0 else 2)) := by
  obtain ⟨HPOST, hpost⟩ : ∃ R, R = FormE w (if ok then joinZ ps rs else 0) (if ok then 0 else 2) := ⟨_, rfl⟩
  rw [← hpost]
  have HP := Lib.hid hpost
  have HNO : Hid (∀ W, SysAt W b ps → Calls Try.prog 38 #[.pointer (some ⟨b, 0, none⟩)] W fun e w' => e = .returned (.bool false) ∧ W = w') := fun W h => none_sys b ps W h
  have HSA := Lib.hid (hs.alloc (.cells #[.bool false, .string ⟨#[]⟩] 38))
  have hab : Below w.heap.size w (w.alloc (.cells #[.bool false, .string ⟨#[]⟩] 38)) := (Below.refl _ _).alloc (Nat.le_refl _) _
  have hg : (w.alloc (.cells #[.bool false, .string ⟨#[]⟩] 38)).heap[w.heap.size]? = some (.cells #[.bool false, .string ⟨#[]⟩] 38) := heap_alloc_new w _
  have HROW := Lib.hid (row_any' b ps rs rv ok hok w _ HSA.out hr hab)
  have HRA := Lib.hid ((hr.below hab).mono hab.size)
  have HOK := Lib.hid hok
  obtain ⟨ra, rc, rfl, -⟩ := reads_u32 hr
  clear hpost hs hr hok
  go_enter Try.func21, Try.ntmps21
  go_upto_region 1 with (fail)
  generalize w.alloc (.cells #[.bool false, .string ⟨#[]⟩] 38) = wa at hab hg HSA HROW HRA ⊢
  have HG := Lib.hid hg
  have HAB := Lib.hid hab
  clear hab hg
  go_wp2_with fail
  (with_reducible refine (HNO.out _ HSA.out).mono ?_)
  rintro e w1 ⟨rfl, rfl⟩
  go_wp2_with fail
  (with_reducible refine (HROW.out).mono ?_)
  rintro e w1 ⟨rfl, rfl⟩
  cases ok with
  | false =>
    obtain ⟨x0, x1, xf⟩ := wide_cells HG.out
    go_wp2
    have m2 := wide_set HG.out false ⟨#[]⟩
    have hb9 := below_set2 (p := w.heap.size) HAB.out (Nat.le_refl _) false ⟨#[]⟩
    obtain ⟨d20, d21, -⟩ := wide_cells m2
    clear m2 x0 x1 xf
    generalize (wa.setCell ⟨w.heap.size, 0, none⟩ (.bool false)).setCell ⟨w.heap.size, 1, none⟩ (.string ⟨#[]⟩) = W9 at d20 d21 hb9 ⊢
    rw [HP.out]
    exact bodyPost_ret (v := .tuple #[.agg #[.bool false, .string ⟨#[]⟩], .int .i64 2]) (by simp [results, Try.results21, go_sem, d20, d21]) rfl ⟨by simp only [Bool.false_eq_true, if_false, zN_zero, zT_zero], hb9⟩
  | true =>
    have hrow := HOK.out.1 rfl
    obtain ⟨jb, hjb⟩ : ∃ z, z = zN (joinZ ps rs) := ⟨_, rfl⟩
    obtain ⟨jt, hjt⟩ : ∃ z, z = zT (joinZ ps rs) := ⟨_, rfl⟩
    have HJ := Lib.hid (join_any b ps rs _ (crtN ps rs) wa HSA.out hsys HRA.out hrow (crtN_ok hsys.sep hrow) jb jt hjb hjt)
    have HJB := Lib.hid hjb
    have HJT := Lib.hid hjt
    clear hjb hjt hrow
    go_wp2_with fail
    (with_reducible refine (HJ.out).mono ?_)
    rintro e w2 ⟨rfl, hb2⟩
    have hg2 := (hb2.block _ (lt_of_heap HG.out)).trans HG.out
    have hbw2 := HAB.out.trans (hb2.mono HAB.out.size)
    obtain ⟨x0, x1, xf⟩ := wide_cells hg2
    have m2 := wide_set hg2 jb jt
    have hb9 := below_set2 (p := w.heap.size) hbw2 (Nat.le_refl _) jb jt
    clear hg2 hb2 hbw2
    go_wp2
    obtain ⟨d20, d21, -⟩ := wide_cells m2
    clear m2 x0 x1 xf
    generalize (w2.setCell ⟨w.heap.size, 0, none⟩ (.bool jb)).setCell ⟨w.heap.size, 1, none⟩ (.string jt) = W9 at d20 d21 hb9 ⊢
    rw [HP.out]
    exact bodyPost_ret (v := .tuple #[.agg #[.bool jb, .string jt], .int .i64 0]) (by simp [results, Try.results21, go_sem, d20, d21]) rfl ⟨by simp only [if_true, HJB.out, HJT.out], hb9⟩
end Go.Proofs.Ytnjblppapmflhaa

/- Walks: conversion, and division by the last prime. -/
namespace Go.Proofs.Ytnjblppapmflhaa
set_option linter.all false
open Go.RowKit Go.Shelf Go.WideNum PN
set_option maxHeartbeats 4000000 in
theorem Convert_any (b c : Nat) (ps us rs : List Nat) (rv : Value) (w : World) (hs : SysAt w b ps) (hsys : SysP ps) (hu : SysAt w c us) (husys : SysP us) (hr : w.reads w.heap.size rv (rs.map u32V)) (ok : Bool) (hok : ok = true ↔ RowP ps rs) :
    Calls Try.prog 32 #[.pointer (some ⟨b, 0, none⟩), rv, .pointer (some ⟨c, 0, none⟩)] w (RowE w (if ok then resL us (joinZ ps rs) else []) (if ok then 0 else 2)) := by
  obtain ⟨HPOST, hpost⟩ : ∃ R, R = RowE w (if ok then resL us (joinZ ps rs) else []) (if ok then 0 else 2) := ⟨_, rfl⟩
  rw [← hpost]
  have HP := Lib.hid hpost
  have HNO := Lib.hid (none_sys b ps w hs)
  have HNU := Lib.hid (none_sys c us w hu)
  have HROW := Lib.hid (row_any b ps rs rv w hs hr ok hok)
  have HOK := Lib.hid hok
  have HS := Lib.hid hs
  have HU := Lib.hid hu
  have HR := Lib.hid hr
  obtain ⟨ra, rc, rfl, -⟩ := reads_u32 hr
  clear hpost hs hu hr hok
  go_enter Try.func32, Try.ntmps32
  go_wp2_with fail
  (with_reducible refine (HNO.out).mono ?_)
  rintro e w1 ⟨rfl, rfl⟩
  go_wp2_with fail
  (with_reducible refine (HNU.out).mono ?_)
  rintro e w1 ⟨rfl, rfl⟩
  go_wp2_with fail
  (with_reducible refine (HROW.out).mono ?_)
  rintro e w1 ⟨rfl, rfl⟩
  cases ok with
  | false =>
    go_wp2
    rw [HP.out]
    exact RowE.nil 2 (Below.refl _ _)
  | true =>
    have hrow := HOK.out.1 rfl
    obtain ⟨jb, hjb⟩ : ∃ z, z = zN (joinZ ps rs) := ⟨_, rfl⟩
    obtain ⟨jt, hjt⟩ : ∃ z, z = zT (joinZ ps rs) := ⟨_, rfl⟩
    have HJ := Lib.hid (join_any b ps rs _ (crtN ps rs) w.drew HS.out hsys HR.out hrow (crtN_ok hsys.sep hrow) jb jt hjb hjt)
    have hsp := fun W h => split_any c us (joinZ ps rs) W h husys.sep husys.2.1 (inR_joinZ hsys.sep hsys.2.1)
    rw [← hjb, ← hjt] at hsp
    have HSP : Hid (∀ W, SysAt W c us → Calls Try.prog 53 #[.pointer (some ⟨c, 0, none⟩), .agg #[.bool jb, .string jt]] W (RowRet W (resL us (joinZ ps rs)))) := hsp
    clear hjb hjt hrow hsp
    go_wp2_with fail
    refine wp_region_late (fun _ => True) (fun _ => false) (by kernel_rfl) trivial (fun hHeld => ?_)
    refine wpAnyD_take 0 (v := ?_) (by kernel_rfl) (by kernel_rfl) rfl (by kernel_rfl) (by kernel_rfl) (fun _ _ _ h => h) (Or.inl ⟨by rfl, ?_⟩) (by assumption) ?_
    rotate_left
    · (intro wq hSq; (try dsimp only at hSq); go_simp; try with_reducible rfl)
    try simp only [Act.put, List.setIfInBounds_toArray, List.set_cons_zero, List.set_cons_succ]
    refine wpAnyD_take 1 (v := ?_) (by kernel_rfl) (by kernel_rfl) rfl (by kernel_rfl) (by kernel_rfl) (fun _ _ _ h => h) (Or.inl ⟨by rfl, ?_⟩) (by assumption) ?_
    rotate_left
    · (intro wq hSq; (try dsimp only at hSq); go_simp; try with_reducible rfl)
    try simp only [Act.put, List.setIfInBounds_toArray, List.set_cons_zero, List.set_cons_succ]
    refine wpAnyD_take 2 (v := ?_) (by kernel_rfl) (by kernel_rfl) rfl (by kernel_rfl) (by kernel_rfl) (fun _ _ _ h => h) (Or.inl ⟨by rfl, ?_⟩) (by assumption) ?_
    rotate_left
    · (intro wq hSq; (try dsimp only at hSq); go_simp; try with_reducible rfl)
    try simp only [Act.put, List.setIfInBounds_toArray, List.set_cons_zero, List.set_cons_succ]
    refine wpAnyD_take 3 (v := ?_) (by kernel_rfl) (by kernel_rfl) rfl (by kernel_rfl) (by kernel_rfl) (fun _ _ _ h => h) (Or.inl ⟨by rfl, ?_⟩) (by assumption) ?_
    rotate_left
    · (intro wq hSq; (try dsimp only at hSq); go_simp; try with_reducible rfl)
    try simp only [Act.put, List.setIfInBounds_toArray, List.set_cons_zero, List.set_cons_succ]
    refine wpAnyD_take 4 (v := ?_) (by kernel_rfl) (by kernel_rfl) rfl (by kernel_rfl) (by kernel_rfl) (fun _ _ _ h => h) (Or.inl ⟨by rfl, ?_⟩) (by assumption) ?_
    rotate_left
    · (intro wq hSq; (try dsimp only at hSq); go_simp; try with_reducible rfl)
    try simp only [Act.put, List.setIfInBounds_toArray, List.set_cons_zero, List.set_cons_succ]
    refine wpAnyD_take 5 (v := ?_) (by kernel_rfl) (by kernel_rfl) rfl (by kernel_rfl) (by kernel_rfl) (fun _ _ _ h => h) (Or.inl ⟨by rfl, ?_⟩) (by assumption) ?_
    rotate_left
    · (intro wq hSq; (try dsimp only at hSq); go_simp; try with_reducible rfl)
    try simp only [Act.put, List.setIfInBounds_toArray, List.set_cons_zero, List.set_cons_succ]
    refine wpAnyD_take 6 (v := ?_) (by kernel_rfl) (by kernel_rfl) rfl (by kernel_rfl) (by kernel_rfl) (fun _ _ _ h => h) (Or.inl ⟨by rfl, ?_⟩) (by assumption) ?_
    rotate_left
    · (intro wq hSq; (try dsimp only at hSq); go_simp; try with_reducible rfl)
    try simp only [Act.put, List.setIfInBounds_toArray, List.set_cons_zero, List.set_cons_succ]
    refine wpAnyD_keep 7 (by kernel_rfl) rfl (fun K hK => ?_)
    go_simp
    go_at_call 54
    (with_reducible refine (HJ.out).mono ?_)
    rintro e w2 ⟨rfl, hb2⟩
    have HB2 : Hid (Below w.heap.size w w2) := ((Below.refl w.heap.size w).drew).trans hb2
    refine hK.out _ _ trivial (fun hHeld3 => ?_)
    clear hK K hHeld hb2
    try simp only [Act.put, List.setIfInBounds_toArray, List.set_cons_zero, List.set_cons_succ]
    refine wpAnyD_keep 8 (by kernel_rfl) rfl (fun K hK => ?_)
    go_simp
    go_at_call 53
    (with_reducible refine (HSP.out _ (HU.out.below HB2.out)).mono ?_)
    rintro e w3 hr
    obtain ⟨v3, rfl, ho3, hb3⟩ := hr
    have HR3 : Hid (RowRet w (resL us (joinZ ps rs)) (.returned v3) w3) := RowRet.back ⟨v3, rfl, ho3, hb3⟩ HB2.out
    refine hK.out _ _ trivial (fun hHeld4 => ?_)
    obtain ⟨va, vc, rfl, -⟩ := ho3.at_
    clear hK K hHeld3 ho3 hb3
    try simp only [Act.put, List.setIfInBounds_toArray, List.set_cons_zero, List.set_cons_succ]
    refine wpAnyD_takeW 9 (v := ?_) (by kernel_rfl) rfl (by kernel_rfl) (by kernel_rfl) (fun _ _ _ h => h) (Or.inl ⟨by rfl, ?_⟩) ?_
    rotate_left
    · (intro wq hSq; (try dsimp only at hSq); go_simp; try with_reducible rfl)
    try simp only [Act.put, List.setIfInBounds_toArray, List.set_cons_zero, List.set_cons_succ]
    refine wpAnyD_takeW 10 (v := ?_) (by kernel_rfl) rfl (by kernel_rfl) (by kernel_rfl) (fun _ _ _ h => h) (Or.inl ⟨by rfl, ?_⟩) ?_
    rotate_left
    · (intro wq hSq; (try dsimp only at hSq); go_simp; try with_reducible rfl)
    try simp only [Act.put, List.setIfInBounds_toArray, List.set_cons_zero, List.set_cons_succ]
    refine wpAnyD_end (by kernel_rfl) ?_
    go_wp2
    rw [HP.out]
    exact RowE.of HR3.out 0
/-- The last prime, the last residue. -/
def lastP (ps : List Nat) : Nat := ps.getD (ps.length - 1) 0
/-- A row, an integer and an error. -/
def DropE (w : World) (l : List Nat) (d E : Int) (e : Ending) (w' : World) : Prop := ∃ v, e = .returned (.tuple #[v, .int .i64 d, .int .i64 E]) ∧ w'.owns w.heap.size 23 1 v l.length (l.map u32V) ∧ Below w.heap.size w w'
def dropD (ps rs : List Nat) : Int := balI (lastP rs) (lastP ps)
def dropF (ps rs : List Nat) (ok : Bool) : List Nat × Int × Int :=
  if ok then (if ps.length = 1 then ([], 0, 9) else (resL (ps.take (ps.length - 1)) ((joinZ ps rs - dropD ps rs) / (lastP ps : Nat)), dropD ps rs, 0)) else ([], 0, 2)
theorem last_get {ps : List Nat} (h : 1 ≤ ps.length) : ps[ps.length - 1]? = some (lastP ps) := by
  have h1 : ps.length - 1 < ps.length := by omega
  have h2 : ps[ps.length - 1]? = some (ps[ps.length - 1]) := List.getElem?_eq_getElem h1
  unfold lastP
  rw [getD_some h2]; exact h2
theorem SysP.last {ps : List Nat} (h : SysP ps) : Pr (lastP ps) ∧ lastP ps % 2 = 1 ∧ lastP ps ≤ 2147483647 ∧ 3 ≤ lastP ps := by
  have h1 := last_get h.1
  obtain ⟨a, b, c, -⟩ := h.sep _ _ h1
  exact ⟨a, b, c, h.sep.big (List.mem_of_getElem? h1)⟩
theorem RowP.last {ps rs : List Nat} (h : RowP ps rs) (h1 : 1 ≤ ps.length) : lastP rs < lastP ps := by
  have h2 := last_get h1
  have h3 := last_get (ps := rs) (by rw [h.1]; exact h1)
  rw [h.1] at h3
  exact h.2 _ _ _ h2 h3
theorem drop_dvd {ps rs : List Nat} (h : SysP ps) (hr : RowP ps rs) : ((lastP ps : Nat) : Int) ∣ joinZ ps rs - dropD ps rs * ((1 : Nat) : Int) := by
  have h2 := last_get h.1
  have h3 := last_get (ps := rs) (by rw [hr.1]; exact h.1)
  rw [hr.1] at h3
  have h4 := joinZ_cg h.sep hr _ _ _ h2 h3
  have h5 := (balI_cg (lastP rs) (lastP ps)).symm
  have h6 : Cg (lastP ps) (joinZ ps rs) (dropD ps rs) := h4.trans h5
  rwa [show dropD ps rs * ((1 : Nat) : Int) = dropD ps rs by simp]
set_option maxHeartbeats 4000000 in
theorem Drop_any (b : Nat) (ps rs : List Nat) (rv : Value) (w : World) (hs : SysAt w b ps) (hsys : SysP ps) (hr : w.reads w.heap.size rv (rs.map u32V)) (ok : Bool) (hok : ok = true ↔ RowP ps rs) :
    Calls Try.prog 12 #[.pointer (some ⟨b, 0, none⟩), rv] w (DropE w (dropF ps rs ok).1 (dropF ps rs ok).2.1 (dropF ps rs ok).2.2) := by
  obtain ⟨HPOST, hpost⟩ : ∃ R, R = DropE w (dropF ps rs ok).1 (dropF ps rs ok).2.1 (dropF ps rs ok).2.2 := ⟨_, rfl⟩
  rw [← hpost]
  have HP := Lib.hid hpost
  have HNO := Lib.hid (none_sys b ps w hs)
  have HROW := Lib.hid (row_any b ps rs rv w hs hr ok hok)
  cases ok with
  | false =>
    obtain ⟨ra, rc, rfl, -⟩ := reads_u32 hr
    clear hpost hs hr hok
    go_enter Try.func12, Try.ntmps12
    go_wp2_with fail
    (with_reducible refine (HNO.out).mono ?_)
    rintro e w1 ⟨rfl, rfl⟩
    go_wp2_with fail
    (with_reducible refine (HROW.out).mono ?_)
    rintro e w1 ⟨rfl, rfl⟩
    go_wp2
    rw [HP.out]
    exact bodyPost_ret (v := .tuple #[.slice none 0 0, .int .i64 0, .int .i64 2]) (by simp [results, Try.results12, go_sem]) rfl ⟨_, rfl, World.owns_nil _ _ _ _, Below.refl _ _⟩
  | true =>
    have hrow := hok.1 rfl
    have hn1 := hsys.1
    have hl25 := hsys.2.1
    obtain ⟨q1, q2, q3, q4⟩ := hsys.last
    have hrl := hrow.last hn1
    have hlen := hrow.1
    have HS := Lib.hid hs
    have HR := Lib.hid hr
    have HROWP := Lib.hid hrow
    have hgr := last_get (ps := rs) (by rw [hlen]; exact hn1)
    have hgp := last_get hn1
    obtain ⟨lv, iv, h1, h2, -⟩ := hs
    have hbw := lt_of_heap h1
    obtain ⟨c0, -⟩ := five_sys h1
    obtain ⟨pa, pc, rfl, hpc, hpm, hps⟩ := reads_u32 h2
    obtain ⟨ra, rc, rfl, hrc, hrm, hrs⟩ := reads_u32 hr
    obtain ⟨bp, op, rfl, hbpl, dq⟩ := hps _ _ hgp
    obtain ⟨br, or, rfl, hbrl, dr⟩ := hrs _ _ hgr
    obtain ⟨n, hn⟩ : ∃ n, n = ps.length := ⟨_, rfl⟩
    have HN := Lib.hid hn
    rw [hlen, ← hn] at dr hrc HROW ⊢
    rw [← hn] at dq c0 hpc
    have hlen' : rs.length = n := by rw [hlen, hn]
    have HLEN := Lib.hid hlen'
    clear hpost h1 h2 hps hrs hgp hgr hok hn
    by_cases h1 : n = 1
    · subst h1
      clear dq dr c0
      go_enter Try.func12, Try.ntmps12
      go_wp2_with fail
      (with_reducible refine (HNO.out).mono ?_)
      rintro e w1 ⟨rfl, rfl⟩
      go_wp2_with fail
      (with_reducible refine (HROW.out).mono ?_)
      rintro e w1 ⟨rfl, rfl⟩
      go_wp2
      rw [HP.out]
      have : dropF ps rs true = ([], 0, 9) := by unfold dropF; rw [if_pos rfl, if_pos HN.out.symm]
      rw [this]
      exact bodyPost_ret (v := .tuple #[.slice none 0 0, .int .i64 0, .int .i64 9]) (by simp [results, Try.results12, go_sem]) rfl ⟨_, rfl, World.owns_nil _ _ _ _, Below.refl _ _⟩
    · obtain ⟨m, rfl⟩ : ∃ m, n = m + 1 := ⟨n - 1, by have := HN.out; omega⟩
      rw [show m + 1 - 1 = m by omega] at dq dr
      have t1 : ((((m + 1 : Nat) : Int)) == 1) = false := by rw [beq_eq_false_iff_ne]; omega
      have t2 : ((m + 1 : Nat) : Int) - 1 = (m : Int) := by omega
      have t3 : (m : Int) < ((m + 1 : Nat) : Int) := by omega
      have t4 : (m : Int) < (m : Int) + 1 := by omega
      obtain ⟨d, hd⟩ : ∃ d, d = dropD ps rs := ⟨_, rfl⟩
      have hbal := fun W => Balanced_in (lastP rs) (lastP ps) hrl (by omega) q3 W
      have hda := balI_abs hrl
      change ∀ W, Calls Try.prog _ _ W (I64Ok (dropD ps rs) W) at hbal
      change -((lastP ps : Nat) : Int) < dropD ps rs ∧ dropD ps rs < (lastP ps : Nat) ∧ _ at hda
      rw [← hd] at hbal hda
      have hov : ∀ (W : World), SysAt W b ps → W.reads W.heap.size (.slice (some ⟨br, or, none⟩) (m + 1) rc) (rs.map u32V) → Calls Try.prog 41 #[.pointer (some ⟨b, 0, none⟩), .slice (some ⟨br, or, none⟩) (m + 1) rc, .int .i64 d, .int .u32 1] W (RowRet W (overL ps rs d 1)) := fun W h h2 => over_any b ps rs (.slice (some ⟨br, or, none⟩) (m + 1) rc) d 1 W h hsys h2 hrow (by omega) (by omega)
      have hval : overL ps rs d 1 = resL (ps.take m) ((joinZ ps rs - d) / (lastP ps : Nat)) := by
        have h5 := over_eq (t := 1) (d := d) hsys.sep hrow HN.out.symm (by have := last_get hn1; rwa [← HN.out] at this) (joinZ_cg hsys.sep hrow) (by rw [hd]; exact drop_dvd hsys hrow)
        rwa [show joinZ ps rs - d * ((1 : Nat) : Int) = joinZ ps rs - d by simp] at h5
      rw [hval] at hov
      have HBAL := Lib.hid hbal
      have HOV := Lib.hid hov
      have HR' : Hid (w.reads w.heap.size (.slice (some ⟨br, or, none⟩) (m + 1) rc) (rs.map u32V)) := by
        have := HR.out; rwa [HLEN.out] at this
      obtain ⟨x, hx⟩ : ∃ x, x = lastP rs := ⟨_, rfl⟩
      obtain ⟨q, hq⟩ : ∃ x, x = lastP ps := ⟨_, rfl⟩
      rw [← hx] at dr HBAL
      rw [← hq] at dq HBAL
      have HQ := Lib.hid hq
      have HDD := Lib.hid hd
      have HM0 : Hid (m ≠ 0) := by show m ≠ 0; omega
      have hda1 : -9223372036854775808 ≤ d ∧ d < 9223372036854775808 := by omega
      clear hbal hov hval hx hq hd hrow hrl q1 q2 q3 q4 hda h1
      go_enter Try.func12, Try.ntmps12
      go_wp2_with fail
      (with_reducible refine (HNO.out).mono ?_)
      rintro e w1 ⟨rfl, rfl⟩
      go_wp2_with fail
      (with_reducible refine (HROW.out).mono ?_)
      rintro e w1 ⟨rfl, rfl⟩
      go_wp2_with fail
      refine wp_region_late (fun w' => w'.cell? ⟨b, 0, none⟩ = some (.slice (some ⟨bp, op, none⟩) (m + 1) pc) ∧ w'.cell? ⟨bp, op + m, none⟩ = some (.int .u32 (q : Int)) ∧ w'.cell? ⟨br, or + m, none⟩ = some (.int .u32 (x : Int))) (fun _ => false) (by kernel_rfl) ⟨c0, dq, dr⟩ (fun hHeld => ?_)
      refine wpAnyD_take 0 (v := ?_) (by kernel_rfl) (by kernel_rfl) rfl (by kernel_rfl) (by kernel_rfl) (fun _ _ _ h => h) (Or.inl ⟨by rfl, ?_⟩) (by assumption) ?_
      rotate_left
      · (intro wq hSq; (try dsimp only at hSq); go_simp; try with_reducible rfl)
      try simp only [Act.put, List.setIfInBounds_toArray, List.set_cons_zero, List.set_cons_succ]
      refine wpAnyD_take 1 (v := ?_) (by kernel_rfl) (by kernel_rfl) rfl (by kernel_rfl) (by kernel_rfl) (fun _ _ _ h => h) (Or.inl ⟨by rfl, ?_⟩) (by assumption) ?_
      rotate_left
      · (intro wq hSq; (try dsimp only at hSq); go_simp; try with_reducible rfl)
      try simp only [Act.put, List.setIfInBounds_toArray, List.set_cons_zero, List.set_cons_succ]
      refine wpAnyD_take 2 (v := ?_) (by kernel_rfl) (by kernel_rfl) rfl (by kernel_rfl) (by kernel_rfl) (fun _ _ _ h => h) (Or.inl ⟨by rfl, ?_⟩) (by assumption) ?_
      rotate_left
      · (intro wq hSq; (try dsimp only at hSq); go_simp; try with_reducible rfl)
      try simp only [Act.put, List.setIfInBounds_toArray, List.set_cons_zero, List.set_cons_succ]
      refine wpAnyD_take 3 (v := ?_) (by kernel_rfl) (by kernel_rfl) rfl (by kernel_rfl) (by kernel_rfl) (fun _ _ _ h => h) (Or.inl ⟨by rfl, ?_⟩) (by assumption) ?_
      rotate_left
      · (intro wq hSq; (try dsimp only at hSq); go_simp; try with_reducible rfl)
      try simp only [Act.put, List.setIfInBounds_toArray, List.set_cons_zero, List.set_cons_succ]
      refine wpAnyD_take 4 (v := ?_) (by kernel_rfl) (by kernel_rfl) rfl (by kernel_rfl) (by kernel_rfl) (fun _ _ _ h => h) (Or.inl ⟨by rfl, ?_⟩) (by assumption) ?_
      rotate_left
      · (intro wq hSq; (try dsimp only at hSq); go_simp; try with_reducible rfl)
      try simp only [Act.put, List.setIfInBounds_toArray, List.set_cons_zero, List.set_cons_succ]
      refine wpAnyD_take 5 (v := ?_) (by kernel_rfl) (by kernel_rfl) rfl (by kernel_rfl) (by kernel_rfl) (fun _ _ _ h => h) (Or.inl ⟨by rfl, ?_⟩) (by assumption) ?_
      rotate_left
      · (intro wq hSq; (try dsimp only at hSq); go_simp; try with_reducible rfl)
      try simp only [Act.put, List.setIfInBounds_toArray, List.set_cons_zero, List.set_cons_succ]
      refine wpAnyD_take 6 (v := ?_) (by kernel_rfl) (by kernel_rfl) rfl (by kernel_rfl) (by kernel_rfl) (fun _ _ _ h => h) (Or.inl ⟨by rfl, ?_⟩) (by assumption) ?_
      rotate_left
      · (intro wq hSq; (try dsimp only at hSq); go_simp; try with_reducible rfl)
      try simp only [Act.put, List.setIfInBounds_toArray, List.set_cons_zero, List.set_cons_succ]
      refine wpAnyD_take 7 (v := ?_) (by kernel_rfl) (by kernel_rfl) rfl (by kernel_rfl) (by kernel_rfl) (fun _ _ _ h => h) (Or.inl ⟨by rfl, ?_⟩) (by assumption) ?_
      rotate_left
      · (intro wq hSq; (try dsimp only at hSq); go_simp; try with_reducible rfl)
      try simp only [Act.put, List.setIfInBounds_toArray, List.set_cons_zero, List.set_cons_succ]
      refine wpAnyD_take 8 (v := ?_) (by kernel_rfl) (by kernel_rfl) rfl (by kernel_rfl) (by kernel_rfl) (fun _ _ _ h => h) (Or.inl ⟨by rfl, ?_⟩) (by assumption) ?_
      rotate_left
      · (intro wq hSq; (try dsimp only at hSq); go_simp; try with_reducible rfl)
      try simp only [Act.put, List.setIfInBounds_toArray, List.set_cons_zero, List.set_cons_succ]
      refine wpAnyD_take 9 (v := ?_) (by kernel_rfl) (by kernel_rfl) rfl (by kernel_rfl) (by kernel_rfl) (fun _ _ _ h => h) (Or.inl ⟨by rfl, ?_⟩) (by assumption) ?_
      rotate_left
      · (intro wq hSq; (try dsimp only at hSq); go_simp; try with_reducible rfl)
      try simp only [Act.put, List.setIfInBounds_toArray, List.set_cons_zero, List.set_cons_succ]
      refine wpAnyD_take 10 (v := ?_) (by kernel_rfl) (by kernel_rfl) rfl (by kernel_rfl) (by kernel_rfl) (fun _ _ _ h => h) (Or.inl ⟨by rfl, ?_⟩) (by assumption) ?_
      rotate_left
      · (intro wq hSq; (try dsimp only at hSq); go_simp; try with_reducible rfl)
      try simp only [Act.put, List.setIfInBounds_toArray, List.set_cons_zero, List.set_cons_succ]
      refine wpAnyD_take 11 (v := ?_) (by kernel_rfl) (by kernel_rfl) rfl (by kernel_rfl) (by kernel_rfl) (fun _ _ _ h => h) (Or.inl ⟨by rfl, ?_⟩) (by assumption) ?_
      rotate_left
      · (intro wq hSq; (try dsimp only at hSq); go_simp; try with_reducible rfl)
      try simp only [Act.put, List.setIfInBounds_toArray, List.set_cons_zero, List.set_cons_succ]
      refine wpAnyD_keep 12 (by kernel_rfl) rfl (fun K hK => ?_)
      go_simp
      go_at_call 40
      (with_reducible refine (HBAL.out _).mono ?_)
      rintro e w2 ⟨rfl, hb2⟩
      have hb2' : Below w.heap.size w w2 := ((Below.refl w.heap.size w).drew).trans hb2
      refine hK.out _ _ ⟨(hb2'.cell (p := ⟨b, 0, none⟩) hbw).trans c0, (hb2'.cell (p := ⟨bp, op + m, none⟩) hbpl).trans dq, (hb2'.cell (p := ⟨br, or + m, none⟩) hbrl).trans dr⟩ (fun hHeld3 => ?_)
      have HB2 := Lib.hid hb2'
      clear hK K hHeld hb2 hb2' c0 dq dr
      try simp only [Act.put, List.setIfInBounds_toArray, List.set_cons_zero, List.set_cons_succ]
      refine wpAnyD_takeW 13 (v := ?_) (by kernel_rfl) rfl (by kernel_rfl) (by kernel_rfl) (fun _ _ _ h => h) (Or.inl ⟨by rfl, ?_⟩) ?_
      rotate_left
      · (intro wq hSq; (try dsimp only at hSq); go_simp; try with_reducible rfl)
      try simp only [Act.put, List.setIfInBounds_toArray, List.set_cons_zero, List.set_cons_succ]
      refine wpAnyD_takeW 14 (v := ?_) (by kernel_rfl) rfl (by kernel_rfl) (by kernel_rfl) (fun _ _ _ h => h) (Or.inl ⟨by rfl, ?_⟩) ?_
      rotate_left
      · (intro wq hSq; (try dsimp only at hSq); go_simp; try with_reducible rfl)
      try simp only [Act.put, List.setIfInBounds_toArray, List.set_cons_zero, List.set_cons_succ]
      refine wpAnyD_takeW 15 (v := ?_) (by kernel_rfl) rfl (by kernel_rfl) (by kernel_rfl) (fun _ _ _ h => h) (Or.inl ⟨by rfl, ?_⟩) ?_
      rotate_left
      · (intro wq hSq; (try dsimp only at hSq); go_simp; try with_reducible rfl)
      try simp only [Act.put, List.setIfInBounds_toArray, List.set_cons_zero, List.set_cons_succ]
      refine wpAnyD_takeW 16 (v := ?_) (by kernel_rfl) rfl (by kernel_rfl) (by kernel_rfl) (fun _ _ _ h => h) (Or.inl ⟨by rfl, ?_⟩) ?_
      rotate_left
      · (intro wq hSq; (try dsimp only at hSq); go_simp; try with_reducible rfl)
      try simp only [Act.put, List.setIfInBounds_toArray, List.set_cons_zero, List.set_cons_succ]
      refine wpAnyD_takeW 17 (v := ?_) (by kernel_rfl) rfl (by kernel_rfl) (by kernel_rfl) (fun _ _ _ h => h) (Or.inl ⟨by rfl, ?_⟩) ?_
      rotate_left
      · (intro wq hSq; (try dsimp only at hSq); go_simp; try with_reducible rfl)
      try simp only [Act.put, List.setIfInBounds_toArray, List.set_cons_zero, List.set_cons_succ]
      refine wpAnyD_end (by kernel_rfl) ?_
      go_wp2_with fail
      (with_reducible refine (HOV.out _ (HS.out.below HB2.out) ((HR'.out.below HB2.out).mono HB2.out.size)).mono ?_)
      rintro e w3 hr
      obtain ⟨v3, rfl, ho3, hb3⟩ := hr.back HB2.out
      obtain ⟨va, vc, rfl, -⟩ := ho3.at_
      have HO3 := Lib.hid ho3
      have HB3 := Lib.hid hb3
      clear ho3 hb3 hr
      go_wp2
      rw [HP.out]
      have : dropF ps rs true = (resL (ps.take m) ((joinZ ps rs - d) / (lastP ps : Nat)), d, 0) := by
        unfold dropF
        rw [if_pos rfl, ← HN.out, if_neg (by have := HM0.out; omega), HDD.out]
        rfl
      rw [this]
      exact bodyPost_ret (v := .tuple #[.slice va _ vc, .int .i64 d, .int .i64 0]) (by simp [results, Try.results12, go_sem]) rfl ⟨_, rfl, HO3.out, HB3.out⟩
end Go.Proofs.Ytnjblppapmflhaa

/- Walks: division by the last prime of what is left after a multiple. -/
namespace Go.Proofs.Ytnjblppapmflhaa
set_option linter.all false
open Go.RowKit Go.Shelf Go.WideNum PN
def scaleE (ps rs : List Nat) (t : Nat) : Nat := lastP rs * invN (t % lastP ps) (lastP ps) % lastP ps
def scaleD (ps rs : List Nat) (t : Nat) : Int := balI (scaleE ps rs t) (lastP ps)
def scaleF (ps rs : List Nat) (t : Nat) (ok : Bool) : List Nat × Int :=
  if ok then (if t < 1 ∨ 2147483647 < t ∨ t % lastP ps = 0 then ([], 2) else if ps.length = 1 then ([], 9) else (resL (ps.take (ps.length - 1)) ((joinZ ps rs - scaleD ps rs t * t) / (lastP ps : Nat)), 0)) else ([], 2)
theorem scale_gcd {ps : List Nat} (h : SysP ps) {t : Nat} (ht : t % lastP ps ≠ 0) : Nat.gcd (lastP ps) (t % lastP ps) = 1 := by
  obtain ⟨q1, -, -, -⟩ := h.last
  refine q1.cop fun hd => ht ?_
  have := Nat.mod_lt t q1.pos
  exact Nat.eq_zero_of_dvd_of_lt hd this
theorem scale_dvd {ps rs : List Nat} (h : SysP ps) (hr : RowP ps rs) {t : Nat} (ht : t % lastP ps ≠ 0) : ((lastP ps : Nat) : Int) ∣ joinZ ps rs - scaleD ps rs t * (t : Int) := by
  obtain ⟨q1, q2, q3, q4⟩ := h.last
  have h2 := last_get h.1
  have h3 := last_get (ps := rs) (by rw [hr.1]; exact h.1)
  rw [hr.1] at h3
  have h4 := joinZ_cg h.sep hr _ _ _ h2 h3
  obtain ⟨-, -, i3⟩ := invN_spec (show 2 ≤ lastP ps by omega) (by omega) (Nat.mod_lt t q1.pos) (scale_gcd h ht)
  have h5 : Cg (lastP ps) (scaleD ps rs t * (t : Int)) ((lastP rs : Nat) : Int) := by
    have k1 : Cg (lastP ps) (scaleD ps rs t) (((lastP rs : Nat) : Int) * (invN (t % lastP ps) (lastP ps) : Nat)) := by
      refine (balI_cg _ _).trans ?_
      unfold scaleE
      refine Cg.modN.trans ?_
      rw [Int.natCast_mul]
      exact Cg.refl _ _
    have k2 := k1.mul (Cg.modN (m := lastP ps) (a := t)).symm
    refine k2.trans ?_
    rw [Int.mul_assoc, Int.mul_comm ((invN (t % lastP ps) (lastP ps) : Nat) : Int)]
    have k3 := (Cg.refl (lastP ps) ((lastP rs : Nat) : Int)).mul i3
    rwa [Int.mul_one] at k3
  exact h4.trans h5.symm
set_option maxHeartbeats 4000000 in
theorem Scale_any (b : Nat) (ps rs : List Nat) (rv : Value) (t : Nat) (htl : t < 4294967296) (w : World) (hs : SysAt w b ps) (hsys : SysP ps) (hr : w.reads w.heap.size rv (rs.map u32V)) (ok : Bool) (hok : ok = true ↔ RowP ps rs) :
    Calls Try.prog 15 #[.pointer (some ⟨b, 0, none⟩), rv, .int .u32 (t : Int)] w (RowE w (scaleF ps rs t ok).1 (scaleF ps rs t ok).2) := by
  obtain ⟨HPOST, hpost⟩ : ∃ R, R = RowE w (scaleF ps rs t ok).1 (scaleF ps rs t ok).2 := ⟨_, rfl⟩
  rw [← hpost]
  have HP := Lib.hid hpost
  have HNO := Lib.hid (none_sys b ps w hs)
  have HROW := Lib.hid (row_any b ps rs rv w hs hr ok hok)
  cases ok with
  | false =>
    obtain ⟨ra, rc, rfl, -⟩ := reads_u32 hr
    clear hpost hs hr hok
    go_enter Try.func15, Try.ntmps15
    go_wp2_with fail
    (with_reducible refine (HNO.out).mono ?_)
    rintro e w1 ⟨rfl, rfl⟩
    go_wp2_with fail
    (with_reducible refine (HROW.out).mono ?_)
    rintro e w1 ⟨rfl, rfl⟩
    go_wp2
    rw [HP.out]
    exact RowE.nil 2 (Below.refl _ _)
  | true =>
    have hrow := hok.1 rfl
    have hn1 := hsys.1
    have hl25 := hsys.2.1
    obtain ⟨q1, q2, q3, q4⟩ := hsys.last
    have hrl := hrow.last hn1
    have hlen := hrow.1
    have HS := Lib.hid hs
    have HR := Lib.hid hr
    have hgr := last_get (ps := rs) (by rw [hlen]; exact hn1)
    have hgp := last_get hn1
    obtain ⟨lv, iv, h1, h2, -⟩ := hs
    have hbw := lt_of_heap h1
    obtain ⟨c0, -⟩ := five_sys h1
    obtain ⟨pa, pc, rfl, hpc, hpm, hps⟩ := reads_u32 h2
    obtain ⟨ra, rc, rfl, hrc, hrm, hrs⟩ := reads_u32 hr
    obtain ⟨bp, op, rfl, hbpl, dq⟩ := hps _ _ hgp
    obtain ⟨br, or, rfl, hbrl, dr⟩ := hrs _ _ hgr
    obtain ⟨m, hm⟩ : ∃ m, ps.length = m + 1 := ⟨ps.length - 1, by omega⟩
    have HM := Lib.hid hm
    have hlen' : rs.length = m + 1 := by rw [hlen, hm]
    have HLEN := Lib.hid hlen'
    rw [hlen'] at dr hrc HROW ⊢
    rw [hm] at dq c0 hpc
    rw [show m + 1 - 1 = m by omega] at dq dr
    have t1 : ((m + 1 : Nat) : Int) - 1 = (m : Int) := by omega
    have t2 : (m : Int) < ((m + 1 : Nat) : Int) := by omega
    have t3 : (m : Int) < (m : Int) + 1 := by omega
    obtain ⟨q, hq⟩ : ∃ x, x = lastP ps := ⟨_, rfl⟩
    obtain ⟨x, hx⟩ : ∃ x, x = lastP rs := ⟨_, rfl⟩
    rw [← hq] at dq
    rw [← hx] at dr
    have hq3 : 3 ≤ q := by omega
    have hqb : q ≤ 2147483647 := by omega
    have hxq : x < q := by omega
    have n1 : ((q : Int) == 0) = false := by rw [beq_eq_false_iff_ne]; omega
    obtain ⟨tq, htq⟩ : ∃ z, z = t % q := ⟨_, rfl⟩
    have n2 : (t : Int) % (q : Int) = (tq : Int) := by rw [htq]; simp
    have HQ := Lib.hid hq
    have HX := Lib.hid hx
    have HTQ := Lib.hid htq
    have HC0 := Lib.hid c0
    have HDR := Lib.hid dr
    have HSYS := Lib.hid hsys
    have HROWP := Lib.hid hrow
    clear hpost h1 h2 hps hrs hgp hgr hok q1 q2 q3 q4 hrl hlen hlen' hm hq hx htq hsys hrow hr hn1
    by_cases ht1 : t < 1
    · have k1 : (t : Int) < 1 := by omega
      have : scaleF ps rs t true = ([], 2) := by unfold scaleF; rw [if_pos rfl, if_pos (Or.inl ht1)]
      have HV := Lib.hid this
      clear this ht1
      go_enter Try.func15, Try.ntmps15
      go_wp2_with fail
      (with_reducible refine (HNO.out).mono ?_)
      rintro e w1 ⟨rfl, rfl⟩
      go_wp2_with fail
      (with_reducible refine (HROW.out).mono ?_)
      rintro e w1 ⟨rfl, rfl⟩
      go_wp2
      rw [HP.out, HV.out]
      exact RowE.nil 2 (Below.refl _ _)
    · have k1 : ¬ (t : Int) < 1 := by omega
      by_cases ht2 : 2147483647 < t
      · have k2 : (2147483647 : Int) < (t : Int) := by omega
        have : scaleF ps rs t true = ([], 2) := by unfold scaleF; rw [if_pos rfl, if_pos (Or.inr (Or.inl ht2))]
        have HV := Lib.hid this
        clear this ht1 ht2
        go_enter Try.func15, Try.ntmps15
        go_wp2_with fail
        (with_reducible refine (HNO.out).mono ?_)
        rintro e w1 ⟨rfl, rfl⟩
        go_wp2_with fail
        (with_reducible refine (HROW.out).mono ?_)
        rintro e w1 ⟨rfl, rfl⟩
        go_wp2
        rw [HP.out, HV.out]
        exact RowE.nil 2 (Below.refl _ _)
      · have k2 : ¬ (2147483647 : Int) < (t : Int) := by omega
        by_cases ht3 : tq = 0
        · have k3 : ((tq : Int) == 0) = true := by rw [beq_iff_eq]; omega
          have : scaleF ps rs t true = ([], 2) := by unfold scaleF; rw [if_pos rfl, if_pos (Or.inr (Or.inr (by rw [← HQ.out, ← HTQ.out]; exact ht3)))]
          have HV := Lib.hid this
          clear this ht1 ht2 ht3
          go_enter Try.func15, Try.ntmps15
          go_wp2_with fail
          (with_reducible refine (HNO.out).mono ?_)
          rintro e w1 ⟨rfl, rfl⟩
          go_wp2_with fail
          (with_reducible refine (HROW.out).mono ?_)
          rintro e w1 ⟨rfl, rfl⟩
          go_wp2
          rw [HP.out, HV.out]
          exact RowE.nil 2 (Below.refl _ _)
        · have k3 : ((tq : Int) == 0) = false := by rw [beq_eq_false_iff_ne]; omega
          have htm : t % lastP ps ≠ 0 := by rw [← HQ.out, ← HTQ.out]; exact ht3
          have hno : ¬ (t < 1 ∨ 2147483647 < t ∨ t % lastP ps = 0) := by rintro (h | h | h) <;> omega
          by_cases hm0 : m = 0
          · subst hm0
            have dq' : w.cell? ⟨bp, op, none⟩ = some (.int .u32 (q : Int)) := dq
            have dr' : w.cell? ⟨br, or, none⟩ = some (.int .u32 (x : Int)) := dr
            clear dq dr
            have : scaleF ps rs t true = ([], 9) := by unfold scaleF; rw [if_pos rfl, if_neg hno, if_pos HM.out]
            have HV := Lib.hid this
            clear this ht1 ht2 ht3 hno htm
            go_enter Try.func15, Try.ntmps15
            go_wp2_with fail
            (with_reducible refine (HNO.out).mono ?_)
            rintro e w1 ⟨rfl, rfl⟩
            go_wp2_with fail
            (with_reducible refine (HROW.out).mono ?_)
            rintro e w1 ⟨rfl, rfl⟩
            go_wp2
            rw [HP.out, HV.out]
            exact RowE.nil 9 (Below.refl _ _)
          · have k4 : ((m : Int) == 0) = false := by rw [beq_eq_false_iff_ne]; omega
            have htql : tq < q := by rw [HTQ.out]; exact Nat.mod_lt _ (by omega)
            have hgc := scale_gcd HSYS.out htm
            rw [← HQ.out, ← HTQ.out] at hgc
            obtain ⟨i1, i2, -⟩ := invN_spec (show 2 ≤ q by omega) (by omega) htql hgc
            obtain ⟨iv, hiv⟩ : ∃ z, z = invN tq q := ⟨_, rfl⟩
            rw [← hiv] at i1 i2
            obtain ⟨e0, he0⟩ : ∃ z, z = x * iv % q := ⟨_, rfl⟩
            have hel : e0 < q := by rw [he0]; exact Nat.mod_lt _ (by omega)
            obtain ⟨d, hd⟩ : ∃ d, d = balI e0 q := ⟨_, rfl⟩
            have hda := balI_abs hel
            rw [← hd] at hda
            have hsd : scaleD ps rs t = d := by unfold scaleD scaleE; rw [← HQ.out, ← HX.out, ← HTQ.out, ← hiv, ← he0, hd]
            have hc1 := fun W => Inverse_in tq q iv htql (by omega) hqb i1 i2 W
            have hc2 := fun W => Mul_in x iv q hxq i1 (by omega) hqb W
            have hc3 := fun W => Balanced_in e0 q hel (by omega) hqb W
            rw [← he0] at hc2
            rw [← hd] at hc3
            have HC1 := Lib.hid hc1
            have HC2 := Lib.hid hc2
            have HC3 := Lib.hid hc3
            have hval : overL ps rs d t = resL (ps.take m) ((joinZ ps rs - d * t) / (lastP ps : Nat)) :=
              over_eq (t := t) (d := d) HSYS.out.sep HROWP.out HM.out (by have := last_get HSYS.out.1; rwa [HM.out] at this) (joinZ_cg HSYS.out.sep HROWP.out) (by rw [← hsd]; exact scale_dvd HSYS.out HROWP.out htm)
            have hov : ∀ (W : World), SysAt W b ps → W.reads W.heap.size (.slice (some ⟨br, or, none⟩) (m + 1) rc) (rs.map u32V) → Calls Try.prog 41 #[.pointer (some ⟨b, 0, none⟩), .slice (some ⟨br, or, none⟩) (m + 1) rc, .int .i64 d, .int .u32 (t : Int)] W (RowRet W (overL ps rs d t)) := fun W h h2 => over_any b ps rs (.slice (some ⟨br, or, none⟩) (m + 1) rc) d t W h HSYS.out h2 HROWP.out (by omega) htl
            rw [hval] at hov
            have HOV := Lib.hid hov
            have HR' : Hid (w.reads w.heap.size (.slice (some ⟨br, or, none⟩) (m + 1) rc) (rs.map u32V)) := by
              have := HR.out; rwa [HLEN.out] at this
            have : scaleF ps rs t true = (resL (ps.take m) ((joinZ ps rs - d * t) / (lastP ps : Nat)), 0) := by
              unfold scaleF
              rw [if_pos rfl, if_neg hno, HM.out, if_neg (by omega), hsd]
              rfl
            have HV := Lib.hid this
            clear this ht1 ht2 ht3 hno htm hgc hiv he0 hd hsd hc1 hc2 hc3 hval hov hda i2
            go_enter Try.func15, Try.ntmps15
            go_wp2_with fail
            (with_reducible refine (HNO.out).mono ?_)
            rintro e w1 ⟨rfl, rfl⟩
            go_wp2_with fail
            (with_reducible refine (HROW.out).mono ?_)
            rintro e w1 ⟨rfl, rfl⟩
            go_wp2_with fail
            (with_reducible refine (HC1.out _).mono ?_)
            rintro e w2 ⟨rfl, hb2⟩
            have HB2 := Lib.hid hb2
            have dr2 := (hb2.cell (p := ⟨br, or + m, none⟩) hbrl).trans dr
            clear hb2
            go_wp2_with fail
            (with_reducible refine (HC2.out _).mono ?_)
            rintro e w3 ⟨rfl, hb3⟩
            have HB3 := Lib.hid (HB2.out.trans (hb3.mono HB2.out.size))
            clear hb3 dr2
            go_wp2_with fail
            (with_reducible refine (HC3.out _).mono ?_)
            rintro e w4 ⟨rfl, hb4⟩
            have HB4 := Lib.hid (HB3.out.trans (hb4.mono HB3.out.size))
            clear hb4
            go_wp2_with fail
            (with_reducible refine (HOV.out _ (HS.out.below HB4.out) ((HR'.out.below HB4.out).mono HB4.out.size)).mono ?_)
            rintro e w5 hr
            have hr5 := hr.back HB4.out
            obtain ⟨v5, rfl, ho5, hb5⟩ := hr5
            obtain ⟨va, vc, rfl, -⟩ := ho5.at_
            have HO5 := Lib.hid ho5
            have HB5 := Lib.hid hb5
            clear ho5 hb5 hr
            go_wp2
            rw [HP.out, HV.out]
            exact ⟨_, rfl, HO5.out, HB5.out⟩
end Go.Proofs.Ytnjblppapmflhaa

/- Wide integers: helpers and walks, in one text (KD8 KD9). -/
/- Walks: a list and a list of rows that grow in one object. -/
namespace Go
open RowKit
/-- append of one element, which the statement lays into a block of its own: where the new row lies. -/
theorem wpList_pushF {P : Program} (W : World) {ops : Array Oper} {rest : List Oper} {o : Oper} {a : Act} {Q : Exit → Act → World → Prop} (hg : o.guard = none) (s x : Operand) (t : TypeId)
    (hop : o.op = .call { callee := .builtin .append, args := #[s, x], argTypes := #[t, t] })
    (base : Nat) (e : TypeId) (i : TypeInfo) (z : Value) (bytes : Nat) (ht : P.underlying t = some (.slice e)) (hi : P.info? e = some i) (hz : i.zero = some z)
    (hsize : i.size = 1) (hby : i.bytes = bytes) (hzs : z.cells.size = 1)
    (v : Value) (n : Nat) (xs : List Value) (hs : a.eval s = v) (hown : W.owns base e 1 v n xs) (u : Value) (H : Nat) (hH : W.heap.size = H) (hx : a.eval x = .slice (some ⟨H, 0, none⟩) 1 1) (h1 : u.oneCell' = true)
    (h63 : n + 1 ≤ maxLen) (hbytes : (n + 1) * bytes ≤ 140737488355328) (hbase : base ≤ W.heap.size)
    (h : ∀ v' w', w'.owns base e 1 v' (n + 1) (xs ++ [u]) → W.grownBy w' v.ownBlock → W.heap.size < w'.heap.size → (v'.ownBlock = v.ownBlock ∨ ∀ k, v'.ownBlock = some k → W.heap.size ≤ k) → wpList P ops Q rest (a.put o.dst v') w') : wpList P ops Q (o :: rest) a (W.alloc (.cells #[u] e)) := by
  subst hH
  refine wpList_plain hg fun K hK' => ?_
  obtain ⟨v', w', hrun, h2, h3, h4⟩ := run_append_fresh (P := P) (W.alloc (.cells #[u] e)) base t o.type e i z bytes ht hi hz hsize hby hzs v n xs (hown.alloc _) ⟨W.heap.size, 0, none⟩ 1 1 [u] rfl (news_alloc W [u] e) (by simpa using h1) h63 hbytes (by simp; omega)
  unfold Oper.wp execOp
  simp only [hop, resolve, invoke, builtin, Sem.run_bind, Sem.run_pure, Result.andThen_ok, List.map_toArray, List.map_cons, List.map_nil, hs, hx, hrun]
  refine hK' _ _ (h v' w' h2 (grownBy_trans (World.grownBy_alloc W _ _) h3) (by have := h3.size; simp at this; omega) ?_)
  rcases h4 with h4 | h4
  · exact .inl h4
  · exact .inr fun k hk => by have := h4 k hk; simp at this; omega
end Go
namespace Go.Proofs.Ytnjblppapmflhaa
set_option linter.all false
open Go.RowKit Go.Shelf Go.WideNum PN
/-- Rows that are owned; none of them lies where g does. -/
def RowsA (w : World) (base : Nat) (iv : Value) (rows : List (List Nat)) (g : Option Nat) : Prop :=
  ∃ vs : List Value, vs.length = rows.length ∧ w.owns base 22 1 iv rows.length vs ∧ ∀ (i : Nat) (r : List Nat), rows[i]? = some r → ∃ u, vs[i]? = some u ∧ w.owns base 23 1 u r.length (r.map u32V) ∧ (u.ownBlock = none ∨ u.ownBlock ≠ g)
theorem RowsA.nil (w : World) (base : Nat) (g : Option Nat) : RowsA w base (.slice none 0 0) [] g := ⟨[], rfl, World.owns_nil _ _ _ _, fun i r h => by simp at h⟩
theorem RowsA.below {w w' : World} {base : Nat} {iv : Value} {rows : List (List Nat)} {g : Option Nat} (h : RowsA w base iv rows g) (hb : Below w.heap.size w w') : RowsA w' base iv rows g := by
  obtain ⟨vs, h1, h2, h3⟩ := h
  exact ⟨vs, h1, h2.below hb, fun i r hr => by obtain ⟨u, k1, k2, k3⟩ := h3 i r hr; exact ⟨u, k1, k2.below hb, k3⟩⟩
theorem RowsA.setCell {w : World} {base : Nat} {iv : Value} {rows : List (List Nat)} {g : Option Nat} (h : RowsA w base iv rows g) {a : Addr} (ha : a.block < base) (x : Value) : RowsA (w.setCell a x) base iv rows g := by
  obtain ⟨vs, h1, h2, h3⟩ := h
  exact ⟨vs, h1, h2.setCell ha x, fun i r hr => by obtain ⟨u, k1, k2, k3⟩ := h3 i r hr; exact ⟨u, k1, k2.setCell ha x, k3⟩⟩
theorem RowsA.rows {w : World} {base : Nat} {iv : Value} {rows : List (List Nat)} {g : Option Nat} (h : RowsA w base iv rows g) : w.rows u32V w.heap.size iv rows := by
  obtain ⟨vs, h1, h2, h3⟩ := h
  exact ⟨vs, h1, h2.reads, fun i r hr => by obtain ⟨u, k1, k2, -⟩ := h3 i r hr; exact ⟨u, k1, k2.reads⟩⟩
theorem RowsA.open_ {w : World} {base : Nat} {iv : Value} {rows : List (List Nat)} {g : Option Nat} (h : RowsA w base iv rows g) : ∃ a c, iv = .slice a rows.length c := by
  obtain ⟨vs, h1, h2, _⟩ := h
  obtain ⟨a, c, rfl, -⟩ := h2.at_
  exact ⟨a, c, rfl⟩
/-- The list grows: the rows lie on where they did. -/
theorem RowsA.push_list {w w' : World} {base n : Nat} {iv lv lv' : Value} {xs : List Value} {rows : List (List Nat)} (h : RowsA w base iv rows lv.ownBlock) (hl : w.owns base 23 1 lv n xs) (hg : w.grownBy w' lv.ownBlock)
    (hf : lv'.ownBlock = lv.ownBlock ∨ ∀ k, lv'.ownBlock = some k → w.heap.size ≤ k) : RowsA w' base iv rows lv'.ownBlock := by
  obtain ⟨vs, h1, h2, h3⟩ := h
  refine ⟨vs, h1, h2.kept hg ?_, fun i r hr => ?_⟩
  · cases hv : lv.ownBlock with
    | none =>
      cases hi : iv.ownBlock with
      | none => exact .inl rfl
      | some k => exact .inr (by simp)
    | some k =>
      rcases hl.2 with ⟨rfl, _⟩ | ⟨g, cap, cur, fz, rfl, _, hgg, _⟩
      · simp [Value.ownBlock] at hv
      · simp [Value.ownBlock] at hv
        subst hv
        have := h2.ne hgg (by decide)
        exact .inr this
  · obtain ⟨u, k1, k2, k3⟩ := h3 i r hr
    refine ⟨u, k1, k2.kept hg k3, ?_⟩
    rcases hf with hf | hf
    · rw [hf]; exact k3
    · cases hu : u.ownBlock with
      | none => exact .inl rfl
      | some k =>
        refine .inr fun e => ?_
        have h5 := (k2.lt k hu).2
        have h6 := hf k e.symm
        omega
/-- One more row. -/
theorem RowsA.push_row {w w' : World} {base n : Nat} {iv iv' lv u : Value} {xs : List Value} {rows : List (List Nat)} {r : List Nat} (h : RowsA w base iv rows lv.ownBlock) (hl : w.owns base 23 1 lv n xs) (hu : w.owns base 23 1 u r.length (r.map u32V)) (hne : u.ownBlock = none ∨ u.ownBlock ≠ lv.ownBlock)
    (hg : w.grownBy w' iv.ownBlock) (hown : ∀ vs, w.owns base 22 1 iv rows.length vs → w'.owns base 22 1 iv' (rows.length + 1) (vs ++ [u])) :
    RowsA w' base iv' (rows ++ [r]) lv.ownBlock ∧ w'.owns base 23 1 lv n xs := by
  obtain ⟨vs, h1, h2, h3⟩ := h
  have hk : ∀ {n : Nat} {x : Value} {xs : List Value}, w.owns base 23 1 x n xs → w'.owns base 23 1 x n xs := by
    intro n x xs hx
    refine hx.kept hg ?_
    rcases h2.2 with ⟨rfl, _⟩ | ⟨g, cap, cur, fz, rfl, _, hgg, _⟩
    · cases hxo : x.ownBlock
      · exact .inl rfl
      · exact .inr (by simp [Value.ownBlock])
    · exact .inr (hx.ne hgg (by decide))
  refine ⟨⟨vs ++ [u], by simp [h1], by simpa using hown vs h2, fun i y hj => ?_⟩, hk hl⟩
  rcases Nat.lt_trichotomy i rows.length with hlt | rfl | hgt
  · rw [List.getElem?_append_left hlt] at hj
    obtain ⟨u', k1, k2, k3⟩ := h3 i y hj
    exact ⟨u', by rw [List.getElem?_append_left (by rw [h1]; exact hlt)]; exact k1, hk k2, k3⟩
  · rw [List.getElem?_append_right (Nat.le_refl _)] at hj
    simp at hj
    subst hj
    exact ⟨u, by rw [← h1, List.getElem?_append_right (Nat.le_refl _)]; simp, hk hu, hne⟩
  · rw [List.getElem?_append_right (by omega)] at hj
    have : i - rows.length ≠ 0 := by omega
    obtain ⟨m, hm⟩ := Nat.exists_eq_succ_of_ne_zero this
    rw [hm] at hj
    simp at hj
theorem RowsA.unique {w : World} {base : Nat} {iv : Value} {rows : List (List Nat)} {g : Option Nat} (h : RowsA w base iv rows g) : ∃ vs, w.owns base 22 1 iv rows.length vs ∧ ∀ vs', w.owns base 22 1 iv rows.length vs' → vs' = vs := by
  obtain ⟨vs, h1, k2, h3⟩ := h
  refine ⟨vs, k2, fun vs' hv' => ?_⟩
  rcases k2.2 with ⟨e1, e2⟩ | ⟨g, cap, cur, fz, rfl, _, q1, _, _, _, _, q2⟩
  · have a1 := k2.1; have a2 := hv'.1
    rw [e2] at a1 a2
    have b1 : vs = [] := List.eq_nil_of_length_eq_zero (by simpa using a1)
    have b2 : vs' = [] := List.eq_nil_of_length_eq_zero (by simpa using a2)
    rw [b1, b2]
  · rcases hv'.2 with ⟨e1, e2⟩ | ⟨g', cap', cur', fz', e1, _, q1', _, _, _, _, q2'⟩
    · cases e1
    · injection e1 with e1 e2 e3
      injection e1 with e1
      injection e1 with e1
      subst e1
      rw [q1] at q1'
      injection q1' with q1'
      injection q1' with q1' _ _
      rw [← q2, ← q2', q1']
/-- A system under way: its first primes, their inverses, and a product. -/
structure NewSt (w wr : World) (lv iv : Value) (l : List Nat) (rows : List (List Nat)) (Q : Nat) : Prop where
  h0 : wr.heap[w.heap.size]? = some (.cells #[lv, .bool (zN (Q : Nat)), .string (zT (Q : Nat)), iv, .bool true] 70)
  ol : wr.owns (w.heap.size + 1) 23 1 lv l.length (l.map u32V)
  rw' : RowsA wr (w.heap.size + 1) iv rows lv.ownBlock
  bel : Below w.heap.size w wr
theorem NewSt.below {w wr w' : World} {lv iv : Value} {l : List Nat} {rows : List (List Nat)} {Q : Nat} (h : NewSt w wr lv iv l rows Q) (hb : Below wr.heap.size wr w') : NewSt w w' lv iv l rows Q :=
  ⟨(hb.block _ (lt_of_heap h.h0)).trans h.h0, h.ol.below hb, h.rw'.below hb, h.bel.trans (hb.mono h.bel.size)⟩
theorem NewSt.sys {w wr : World} {lv iv : Value} {ps : List Nat} (h : NewSt w wr lv iv ps (invRows ps) (prodL ps)) : SysAt wr w.heap.size ps :=
  ⟨lv, iv, h.h0, h.ol.reads, h.rw'.rows⟩
theorem NewSt.size {w wr : World} {lv iv : Value} {l : List Nat} {rows : List (List Nat)} {Q : Nat} (h : NewSt w wr lv iv l rows Q) : w.heap.size + 1 ≤ wr.heap.size := lt_of_heap h.h0
theorem NewSt.pushL {w wr w' : World} {lv lv' iv : Value} {l : List Nat} {rows : List (List Nat)} {Q p : Nat} (h : NewSt w wr lv iv l rows Q) (ho : w'.owns (w.heap.size + 1) 23 1 lv' (l.length + 1) (l.map u32V ++ [u32V p])) (hg : wr.grownBy w' lv.ownBlock)
    (hf : lv'.ownBlock = lv.ownBlock ∨ ∀ k, lv'.ownBlock = some k → wr.heap.size ≤ k) : w'.heap[w.heap.size]? = some (.cells #[lv, .bool (zN (Q : Nat)), .string (zT (Q : Nat)), iv, .bool true] 70) ∧ NewSt w (w'.setCell ⟨w.heap.size, 0, none⟩ lv') lv' iv (l ++ [p]) rows Q := by
  have hs := h.size
  have hk : w'.heap[w.heap.size]? = some (.cells #[lv, .bool (zN (Q : Nat)), .string (zT (Q : Nat)), iv, .bool true] 70) := by
    rw [hg.block _ (by omega) (fun e => by have := (h.ol.lt _ e.symm).1; omega)]; exact h.h0
  refine ⟨hk, ?_, ?_, ?_, ?_⟩
  · simp [World.setCell, Array.getElem?_modify, hk]
  · have := ho.setCell (a := ⟨w.heap.size, 0, none⟩) (by simp) lv'
    rw [List.length_append, List.map_append]
    exact this
  · exact (h.rw'.push_list h.ol hg hf).setCell (by simp) _
  · have h1 : Below w.heap.size w w' := h.bel.grown hg (by omega) (fun k hk => by have := (h.ol.lt k hk).1; omega)
    exact h1.setCell (by simp) _
theorem NewSt.pushR {w wr w' : World} {lv iv iv' u : Value} {l : List Nat} {rows : List (List Nat)} {Q : Nat} {r : List Nat} (h : NewSt w wr lv iv l rows Q) (hu : wr.owns (w.heap.size + 1) 23 1 u r.length (r.map u32V)) (hne : u.ownBlock = none ∨ u.ownBlock ≠ lv.ownBlock)
    (hg : wr.grownBy w' iv.ownBlock) (hown : ∀ vs, wr.owns (w.heap.size + 1) 22 1 iv rows.length vs → w'.owns (w.heap.size + 1) 22 1 iv' (rows.length + 1) (vs ++ [u])) :
    w'.heap[w.heap.size]? = some (.cells #[lv, .bool (zN (Q : Nat)), .string (zT (Q : Nat)), iv, .bool true] 70) ∧ NewSt w (w'.setCell ⟨w.heap.size, 3, none⟩ iv') lv iv' l (rows ++ [r]) Q := by
  have hs := h.size
  obtain ⟨vs, k1, -⟩ := h.rw'.unique
  have hk : w'.heap[w.heap.size]? = some (.cells #[lv, .bool (zN (Q : Nat)), .string (zT (Q : Nat)), iv, .bool true] 70) := by
    rw [hg.block _ (by omega) (fun e => by have := (k1.lt _ e.symm).1; omega)]; exact h.h0
  obtain ⟨a1, a2⟩ := h.rw'.push_row h.ol hu hne hg hown
  refine ⟨hk, ?_, ?_, ?_, ?_⟩
  · simp [World.setCell, Array.getElem?_modify, hk]
  · exact a2.setCell (by simp) _
  · exact a1.setCell (by simp) _
  · have h1 : Below w.heap.size w w' := h.bel.grown hg (by omega) (fun k hk => by have := (k1.lt k hk).1; omega)
    exact h1.setCell (by simp) _
theorem NewSt.setQ {w wr : World} {lv iv : Value} {l : List Nat} {rows : List (List Nat)} {Q : Nat} (h : NewSt w wr lv iv l rows Q) (Q' : Nat) : NewSt w ((wr.setCell ⟨w.heap.size, 1, none⟩ (.bool (zN (Q' : Nat)))).setCell ⟨w.heap.size, 2, none⟩ (.string (zT (Q' : Nat)))) lv iv l rows Q' := by
  refine ⟨?_, ?_, ?_, ?_⟩
  · simp [World.setCell, Array.getElem?_modify, h.h0]
  · exact (h.ol.setCell (by simp) _).setCell (by simp) _
  · exact (h.rw'.setCell (by simp) _).setCell (by simp) _
  · exact (h.bel.setCell (by simp) _).setCell (by simp) _
end Go.Proofs.Ytnjblppapmflhaa

/- Walks: a system is made. -/
namespace Go.Proofs.Ytnjblppapmflhaa
set_option linter.all false
open Go.RowKit Go.Shelf Go.WideNum PN
def NewRet (w : World) (ps : List Nat) (ok : Bool) (e : Ending) (w' : World) : Prop :=
  Below w.heap.size w w' ∧ (if ok then e = .returned (.tuple #[.pointer (some ⟨w.heap.size, 0, none⟩), .int .i64 0]) ∧ SysAt w' w.heap.size ps else e = .returned (.tuple #[.pointer none, .int .i64 2]))
theorem NewRet.no {w w' : World} {ps : List Nat} (h : Below w.heap.size w w') : NewRet w ps false (.returned (.tuple #[.pointer none, .int .i64 2])) w' := ⟨h, rfl⟩
/-- A system, whose blocks lie from B on. -/
def SysO (B : Nat) (w : World) (b : Nat) (ps : List Nat) : Prop := B ≤ b ∧ ∃ lv iv, w.heap[b]? = some (.cells #[lv, .bool (zN (prodL ps : Nat)), .string (zT (prodL ps : Nat)), iv, .bool true] 70) ∧ w.owns B 23 1 lv ps.length (ps.map u32V) ∧ ∃ g, RowsA w B iv (invRows ps) g
theorem SysO.sys {B : Nat} {w : World} {b : Nat} {ps : List Nat} (h : SysO B w b ps) : SysAt w b ps := by
  obtain ⟨-, lv, iv, h1, h2, g, h3⟩ := h
  exact ⟨lv, iv, h1, h2.reads, h3.rows⟩
theorem SysO.below {B : Nat} {w w' : World} {b : Nat} {ps : List Nat} (h : SysO B w b ps) (hb : Below w.heap.size w w') : SysO B w' b ps := by
  obtain ⟨h0, lv, iv, h1, h2, g, h3⟩ := h
  exact ⟨h0, lv, iv, (hb.block _ (lt_of_heap h1)).trans h1, h2.below hb, g, h3.below hb⟩
theorem SysO.setCell {B : Nat} {w : World} {b : Nat} {ps : List Nat} (h : SysO B w b ps) {a : Addr} (ha : a.block < B) (x : Value) : SysO B (w.setCell a x) b ps := by
  obtain ⟨h0, lv, iv, h1, h2, g, h3⟩ := h
  exact ⟨h0, lv, iv, by rw [Below.heap_setCell _ _ _ _ (by omega)]; exact h1, h2.setCell ha x, g, h3.setCell ha x⟩
theorem RowsA.mono {w : World} {B C : Nat} {iv : Value} {rows : List (List Nat)} {g : Option Nat} (h : RowsA w B iv rows g) (hC : C ≤ B) : RowsA w C iv rows g := by
  obtain ⟨vs, h1, h2, h3⟩ := h
  exact ⟨vs, h1, h2.mono hC, fun i r hr => by obtain ⟨u, k1, k2, k3⟩ := h3 i r hr; exact ⟨u, k1, k2.mono hC, k3⟩⟩
theorem NewSt.so {w wr : World} {lv iv : Value} {ps : List Nat} (h : NewSt w wr lv iv ps (invRows ps) (prodL ps)) : SysO w.heap.size wr w.heap.size ps :=
  ⟨Nat.le_refl _, lv, iv, h.h0, h.ol.mono (by omega), _, h.rw'.mono (by omega)⟩
def NewRetS (w : World) (ps : List Nat) (ok : Bool) (e : Ending) (w' : World) : Prop :=
  Below w.heap.size w w' ∧ (if ok then e = .returned (.tuple #[.pointer (some ⟨w.heap.size, 0, none⟩), .int .i64 0]) ∧ SysO w.heap.size w' w.heap.size ps else e = .returned (.tuple #[.pointer none, .int .i64 2]))
theorem NewRetS.no {w w' : World} {ps : List Nat} (h : Below w.heap.size w w') : NewRetS w ps false (.returned (.tuple #[.pointer none, .int .i64 2])) w' := ⟨h, rfl⟩
theorem infoU32r : (Try.prog.info? 22).map (fun i => (i.zero, i.size, i.bytes)) = some (some (.slice none 0 0), 1, 24) := by kernel_rfl
theorem hasB_iff (l : List Nat) (x : Nat) : hasB l x = true ↔ x ∈ l := by unfold hasB; simp
theorem SysTo.succ {ps : List Nat} {k p : Nat} (h : SysTo ps k) (hp : ps[k]? = some p) (ho : OkAt (ps.take k) p) : SysTo ps (k + 1) := by
  intro i hi q hq
  rcases (show i < k ∨ i = k by omega) with h1 | rfl
  · exact h i h1 q hq
  · rw [hp] at hq; injection hq with hq; rw [← hq]; exact ho
theorem not_sys {ps : List Nat} {k p : Nat} {ok : Bool} (hok : ok = true ↔ SysP ps) (hp : ps[k]? = some p) (h : ¬ OkAt (ps.take k) p) : ok = false := by
  cases h1 : ok
  · rfl
  · exact absurd ((hok.1 h1).2.2 k (List.getElem?_eq_some_iff.1 hp).1 p hp) h
theorem invRows_take {ps : List Nat} {k p : Nat} (hp : ps[k]? = some p) : (invRows ps).take (k + 1) = (invRows ps).take k ++ [(ps.take k).map fun q => invN (q % p) p] := take_succR (invRows_get hp)
  where take_succR {l : List (List Nat)} {i : Nat} {r : List Nat} (h : l[i]? = some r) : l.take (i + 1) = l.take i ++ [r] := by rw [List.take_add_one, h]; rfl
set_option maxRecDepth 100000 in
set_option maxHeartbeats 8000000 in
theorem New_so (ps : List Nat) (pv : Value) (w : World) (hr : w.reads w.heap.size pv (ps.map u32V)) (hpb : ∀ p ∈ ps, p < 4294967296) (ok : Bool) (hok : ok = true ↔ SysP ps) :
    Calls Try.prog 19 #[pv] w (NewRetS w ps ok) := by
  obtain ⟨HPOST, hpost⟩ : ∃ R, R = NewRetS w ps ok := ⟨_, rfl⟩
  rw [← hpost]
  have HP := Lib.hid hpost
  have HOK := Lib.hid hok
  have hl1 := hr.le_map
  have HR := Lib.hid hr
  have HPB := Lib.hid hpb
  obtain ⟨pa, pc, rfl, hpc, hpm, hps⟩ := reads_u32 hr
  have HS := Lib.hid hps
  obtain ⟨n, hn⟩ : ∃ n, n = ps.length := ⟨_, rfl⟩
  rw [← hn] at hpc hl1 HR ⊢
  have HN := Lib.hid hn
  clear hpost hok hr hps hn hpb
  by_cases h1 : n < 1
  · have t1 : (n : Int) < 1 := by omega
    obtain rfl : ok = false := by
      cases h : ok
      · rfl
      · have := (HOK.out.1 h).1; have := HN.out; omega
    clear h1
    go_enter Try.func19, Try.ntmps19
    go_wp2
    rw [HP.out]
    exact NewRetS.no (Below.refl _ _)
  · have t1 : ¬ (n : Int) < 1 := by omega
    by_cases h2 : 25 < n
    · have t2 : (25 : Int) < (n : Int) := by omega
      obtain rfl : ok = false := by
        cases h : ok
        · rfl
        · have := (HOK.out.1 h).2.1; have := HN.out; omega
      clear h1 h2
      go_enter Try.func19, Try.ntmps19
      go_wp2
      rw [HP.out]
      exact NewRetS.no (Below.refl _ _)
    · have t2 : ¬ (25 : Int) < (n : Int) := by omega
      have hof := fun W => Of_z 1 (by omega) (by omega) W
      obtain ⟨ob, hob⟩ : ∃ z, z = zN 1 := ⟨_, rfl⟩
      obtain ⟨ot, hot⟩ : ∃ z, z = zT 1 := ⟨_, rfl⟩
      rw [← hob, ← hot] at hof
      have HOF := Lib.hid hof
      have HOB := Lib.hid hob
      have HOT := Lib.hid hot
      clear hof hob hot h1 h2
      go_enter Try.func19, Try.ntmps19
      go_upto_region 4 with (fail)
      have hg0 : (w.alloc (.cells #[.slice none 0 0, .bool false, .string ⟨#[]⟩, .slice none 0 0, .bool true] 70)).heap[w.heap.size]? = some (.cells #[.slice none 0 0, .bool false, .string ⟨#[]⟩, .slice none 0 0, .bool true] 70) := heap_alloc_new w _
      have hab : Below w.heap.size w (w.alloc (.cells #[.slice none 0 0, .bool false, .string ⟨#[]⟩, .slice none 0 0, .bool true] 70)) := (Below.refl _ _).alloc (Nat.le_refl _) _
      generalize w.alloc (.cells #[.slice none 0 0, .bool false, .string ⟨#[]⟩, .slice none 0 0, .bool true] 70) = wa at hg0 hab ⊢
      have HG0 := Lib.hid hg0
      have HAB := Lib.hid hab
      clear hg0 hab
      go_wp2_with fail
      (with_reducible refine (HOF.out _).mono ?_)
      rintro e w1 ⟨rfl, hb1⟩
      have hg1 := (hb1.block _ (lt_of_heap HG0.out)).trans HG0.out
      have hb01 := HAB.out.trans (hb1.mono HAB.out.size)
      have hst : NewSt w ((w1.setCell ⟨w.heap.size, 1, none⟩ (.bool ob)).setCell ⟨w.heap.size, 2, none⟩ (.string ot)) (.slice none 0 0) (.slice none 0 0) [] [] 1 := by
        refine ⟨?_, World.owns_nil _ _ _ _, RowsA.nil _ _ _, (hb01.setCell (by simp) _).setCell (by simp) _⟩
        rw [HOB.out, HOT.out]
        simp [World.setCell, Array.getElem?_modify, hg1]
      have HST := Lib.hid hst
      obtain ⟨-, c1, c2, -, -, -, f1, f2, -⟩ := five_sys hg1
      clear hb1 hb01 hst hg1
      go_upto_region 5 with (fail)
      generalize (w1.setCell ⟨w.heap.size, 1, none⟩ (.bool ob)).setCell ⟨w.heap.size, 2, none⟩ (.string ot) = w2 at HST ⊢
      clear c1 c2 f1 f2 HG0 HAB HOF HOB HOT
      go_wp2_with fail
      go_loopw [29] (fun iv wr => ∃ k : Nat, k ≤ n ∧ iv = .int .i64 (k : Int) ∧ Hid (SysTo ps k) ∧ Hid (∃ lv rv, NewSt w wr lv rv (ps.take k) ((invRows ps).take k) (prodL (ps.take k)))) (fun iv _ => n - (intOf iv).toNat)
      case atStart => exact ⟨0, Nat.zero_le _, rfl, fun i hi => by omega, ⟨_, _, HST.out⟩⟩
      case round =>
        obtain ⟨k, hk, rfl, hto, hS⟩ := hrel
        obtain ⟨wo, rfl⟩ : ∃ x, x = wr := ⟨_, rfl⟩
        obtain ⟨lv, rv, hS⟩ := hS.out
        have HS0 := Lib.hid hS
        clear hS
        by_cases hlt : k < n
        · have hkp : k < ps.length := by rw [← HN.out]; exact hlt
          obtain ⟨p, hp⟩ : ∃ p, ps[k]? = some p := ⟨ps[k], List.getElem?_eq_getElem hkp⟩
          obtain ⟨b2, o2, rfl, hb2l, d2⟩ := HS.out k p hp
          have hpl : p < 4294967296 := HPB.out p (List.mem_of_getElem? hp)
          have e2 := (HS0.out.bel.cell (p := ⟨b2, o2 + k, none⟩) hb2l).trans d2
          have HP1 := Lib.hid hp
          have s1 : (k : Int) < (n : Int) := by omega
          have s2 : k ≤ pc := by omega
          have s3 : (k : Int) ≤ (pc : Int) := by omega
          clear hkp hp d2
          by_cases hev : p % 2 = 0
          · obtain rfl : ok = false := not_sys HOK.out HP1.out (fun h => by have := h.1; omega)
            have u1 : (p : Int) % 2 = 0 := by omega
            clear hev
            go_wp2
            rw [HP.out]
            exact NewRetS.no HS0.out.bel
          · have u1 : (p : Int) % 2 = 1 := by omega
            by_cases hmx : 2147483647 < p
            · obtain rfl : ok = false := not_sys HOK.out HP1.out (fun h => by have := h.2.1; omega)
              have u2 : (2147483647 : Int) < (p : Int) := by omega
              clear hev hmx
              go_wp2
              rw [HP.out]
              exact NewRetS.no HS0.out.bel
            · have u2 : ¬ (2147483647 : Int) < (p : Int) := by omega
              obtain ⟨has, hhas⟩ : ∃ z, z = hasB (ps.take k) p := ⟨_, rfl⟩
              have hcon : Calls Try.prog 49 #[.slice (some ⟨b2, o2, none⟩) k pc, .int .u32 (p : Int)] wo fun e w' => e = .returned (.bool has) ∧ wo = w' := by
                rw [hhas]
                have h1 := ((HR.out.below HS0.out.bel).take k (by omega))
                rw [← List.map_take] at h1
                exact Contains_any p _ (ps.take k) _ wo h1
              have HCON := Lib.hid hcon
              obtain ⟨pr, hpr⟩ := em_bool (PrimeP p)
              have HPRM := Lib.hid (fun W => Prime_any p hpl pr hpr W)
              have HPR := Lib.hid hpr
              have HHAS := Lib.hid hhas
              have hodd : p % 2 = 1 := by omega
              have hmax : p ≤ 2147483647 := by omega
              clear hcon hpr hhas hev hmx
              go_wp2_with fail
              (with_reducible refine (HCON.out).mono ?_)
              rintro e w3 ⟨rfl, rfl⟩
              cases has with
              | true =>
                obtain rfl : ok = false := not_sys HOK.out HP1.out (fun h => h.2.2.1 ((hasB_iff _ _).1 HHAS.out.symm))
                go_wp2
                rw [HP.out]
                exact NewRetS.no HS0.out.bel
              | false =>
                go_wp2_with fail
                (with_reducible refine (HPRM.out _).mono ?_)
                rintro e w5 ⟨rfl, hb5⟩
                have HB5 := Lib.hid (HS0.out.bel.trans (hb5.mono HS0.out.bel.size))
                cases pr with
                | false =>
                  obtain rfl : ok = false := not_sys HOK.out HP1.out (fun h => by have := HPR.out.2 h.2.2.2; cases this)
                  clear hb5
                  go_wp2
                  rw [HP.out]
                  exact NewRetS.no HB5.out
                | true =>
                  have hok1 : OkAt (ps.take k) p := ⟨hodd, hmax, fun h => (by have h2 := (hasB_iff _ _).2 h; rw [← HHAS.out] at h2; cases h2), HPR.out.1 rfl⟩
                  have HTO2 := Lib.hid (hto.out.succ HP1.out hok1)
                  have hprp := hok1.2.2.2.pr (by omega)
                  have HPP := Lib.hid hprp
                  have HS5 := Lib.hid (HS0.out.below hb5)
                  have hp3 : 3 ≤ p := by have := hprp.1; omega
                  have HCOP : Hid (∀ j q : Nat, j < k → ps[j]? = some q → Nat.gcd p (q % p) = 1 ∧ q ≤ 2147483647) := fun j q hj hq => by
                    obtain ⟨o1, o2, o3, o4⟩ := hto.out j hj q hq
                    have hne : p ≠ q := fun e => hok1.2.2.1 (by rw [e]; exact List.mem_of_getElem? (by rw [List.getElem?_take, if_pos hj]; exact hq))
                    refine ⟨?_, o2⟩
                    rw [Nat.gcd_comm, ← Nat.gcd_rec]
                    exact pr_cop hprp (o4.pr (by omega)) hne
                  obtain ⟨R, hR⟩ : ∃ R, R = (ps.take k).map fun q => invN (q % p) p := ⟨_, rfl⟩
                  have HRL := Lib.hid hR
                  have n1 : ((p : Int) == 0) = false := by rw [beq_eq_false_iff_ne]; omega
                  have hk24 : k ≤ 25 := by omega
                  obtain ⟨i0, hi0, hiz, hiz1, hizb⟩ := info_parts infoU32
                  have HI0 := Lib.hid hi0
                  clear hb5 hok1 hto hprp hR HCON HPRM HHAS hodd HS0 e2 hi0
                  go_wp2_with fail
                  go_loopw [7, 57] (fun sv jv wr => ∃ j : Nat, j ≤ k ∧ jv = .int .i64 (j : Int) ∧ Hid (wr.owns w5.heap.size 23 1 sv j ((R.take j).map u32V)) ∧ Hid (Below w5.heap.size w5 wr)) (fun _ jv _ => k - (intOf jv).toNat)
                  case atStart => exact ⟨0, Nat.zero_le _, rfl, World.owns_nil _ _ _ _, Below.refl _ _⟩
                  case round =>
                    obtain ⟨j, hj, rfl, hO, hB⟩ := hrel
                    obtain ⟨sa, sc, rfl, -⟩ := hO.out.at_
                    by_cases hjk : j < k
                    · have hjp : j < ps.length := by have := HN.out; omega
                      obtain ⟨q, hq⟩ : ∃ q, ps[j]? = some q := ⟨ps[j], List.getElem?_eq_getElem hjp⟩
                      obtain ⟨b3, o3, hpa3, hb3l, d3⟩ := HS.out j q hq
                      injection hpa3 with hpa3
                      injection hpa3 with hpa3 hpa4 _
                      subst hpa3 hpa4
                      obtain ⟨hgc, hqm⟩ := HCOP.out j q hjk hq
                      obtain ⟨qp, hqp⟩ : ∃ z, z = q % p := ⟨_, rfl⟩
                      have hqpl : qp < p := by rw [hqp]; exact Nat.mod_lt _ (by omega)
                      rw [← hqp] at hgc
                      obtain ⟨i1, i2, -⟩ := invN_spec (show 2 ≤ p by omega) hpl hqpl hgc
                      obtain ⟨iw, hiw⟩ : ∃ z, z = invN qp p := ⟨_, rfl⟩
                      rw [← hiw] at i1 i2
                      have HINV := Lib.hid (fun W => Inverse_in qp p iw hqpl (by omega) hmax i1 i2 W)
                      have n3 : (q : Int) % (p : Int) = (qp : Int) := by rw [hqp]; simp
                      have e3 := ((HB5.out.trans (hB.out.mono HB5.out.size)).cell (p := ⟨b2, o2 + j, none⟩) hb3l).trans d3
                      have hRj : R[j]? = some iw := by rw [HRL.out, List.getElem?_map, List.getElem?_take, if_pos hjk, hq, hiw, hqp]; rfl
                      have HNXT : Hid ((R.take (j + 1)).map u32V = (R.take j).map u32V ++ [.int .u32 (iw : Int)]) := by
                        show _ = _
                        rw [List.take_add_one, hRj, List.map_append]; rfl
                      have t3 : (j : Int) < (k : Int) := by omega
                      clear hq d3 hgc hqp i2 hiw hRj hjp hqm
                      go_wp2_with fail
                      (with_reducible refine (HINV.out _).mono ?_)
                      rintro e w6 ⟨rfl, hb6⟩
                      have HO6 := Lib.hid (hO.out.below hb6)
                      have HB6 := Lib.hid (hB.out.trans (hb6.mono hB.out.size))
                      have hz6 : w5.heap.size ≤ w6.heap.size := HB6.out.size
                      clear hb6 hO hB e3 HINV
                      go_wp2_with (at_builtin; refine wpList_push1 rfl (.tmp 69) (.tmp 71) 22 rfl w5.heap.size 23 i0 (.int .u32 0) 4 Try.underlying22 HI0.out hiz hiz1 hizb rfl (.slice sa j sc) j _ rfl HO6.out (.int .u32 (iw : Int)) w6.heap.size rfl rfl (by simp [Value.oneCell']) (by unfold maxLen; omega) (by omega) hz6 ?_; intro v7 w7 ho7 hs7 hB7; have HO7 := Lib.hid ho7; have HB7 := Lib.hid (hB7 w5.heap.size w5 HB6.out (Nat.le_refl _)); obtain ⟨va7, vc7, rfl, -⟩ := ho7.at_; clear ho7 hs7 hB7)
                      go_roundw
                      case rel => exact ⟨j + 1, by omega, by go_num, by
                        show World.owns _ _ _ _ _ _ _
                        rw [HNXT.out]
                        exact HO7.out, HB7.out⟩
                      case measure => simp [intOf]; omega
                    · obtain rfl : k = j := by omega
                      have hRl : R.length = k := by rw [HRL.out, List.length_map, List.length_take]; have := HN.out; omega
                      have hRt : R.take k = R := List.take_of_length_le (by omega)
                      have hO1 := hO.out
                      rw [hRt] at hO1
                      have hNS := HS5.out.below hB.out
                      have hs5 := HS5.out.size
                      have hOu : wr.owns (w.heap.size + 1) 23 1 (.slice sa k sc) R.length (R.map u32V) := by rw [hRl]; exact hO1.mono hs5
                      have hne : (Value.slice sa k sc).ownBlock = none ∨ (Value.slice sa k sc).ownBlock ≠ lv.ownBlock := by
                        cases hu : (Value.slice sa k sc).ownBlock with
                        | none => exact .inl rfl
                        | some g =>
                          refine .inr fun e => ?_
                          have q1 := (hO1.lt g hu).1
                          have q2 := (HS5.out.ol.lt g e.symm).2
                          omega
                      have hll : (ps.take k).length = k := by rw [List.length_take]; have := HN.out; omega
                      have hrl : ((invRows ps).take k).length = k := by rw [List.length_take]; simp [invRows]; have := HN.out; omega
                      obtain ⟨la, lc, hlv, -⟩ := hNS.ol.at_
                      rw [hll] at hlv
                      subst hlv
                      obtain ⟨ia, ic, hrv⟩ := hNS.rw'.open_
                      rw [hrl] at hrv
                      subst hrv
                      obtain ⟨c0, -, -, -, -, f0, -⟩ := five_sys hNS.h0
                      have hol := hNS.ol
                      rw [hll] at hol
                      have HOL := Lib.hid hol
                      have HNS := Lib.hid hNS
                      have HOU := Lib.hid hOu
                      have HNE := Lib.hid hne
                      have HRLEN := Lib.hid hRl
                      have HLL := Lib.hid hll
                      have HRRL := Lib.hid hrl
                      have hwr1 : w.heap.size + 1 ≤ wr.heap.size := hNS.size
                      obtain ⟨i1, hi1, hi1z, hi1z1, hi1b⟩ := info_parts infoU32r
                      have HI1 := Lib.hid hi1
                      have t5 : ¬ (k : Int) < (k : Int) := by omega
                      clear hO1 hNS hOu hne hol hRl hRt hll hrl hO hB hs5 hi1 HB5 HCOP
                      go_upto_region 18 with (at_builtin; refine wpList_pushF wr rfl (.tmp 79) (.tmp 81) 22 rfl (w.heap.size + 1) 23 i0 (.int .u32 0) 4 Try.underlying22 HI0.out hiz hiz1 hizb rfl (.slice la k lc) k _ rfl HOL.out (.int .u32 (p : Int)) wr.heap.size rfl rfl (by simp [Value.oneCell']) (by unfold maxLen; omega) (by omega) hwr1 ?_; intro v7 w7 ho7 hg7 hz7 hf7; obtain ⟨hk7, hN7⟩ := HNS.out.pushL (p := p) (by rw [HLL.out]; exact ho7) hg7 hf7; have HN7 := Lib.hid hN7; have HU7 := Lib.hid ((HOU.out.kept hg7 HNE.out).setCell (a := ⟨w.heap.size, 0, none⟩) (by simp) v7); have HF7 := Lib.hid hf7; have HZU : Hid (∀ g, (Value.slice sa k sc).ownBlock = some g → g < wr.heap.size) := (fun g hg => (HOU.out.lt g hg).2); obtain ⟨va7, vc7, rfl, -⟩ := ho7.at_; obtain ⟨c0, -, -, -, -, f0, -⟩ := five_sys hk7; clear ho7 hg7 hk7 hN7 hf7)
                      generalize w7.setCell ⟨w.heap.size, 0, none⟩ (.slice va7 (k + 1) vc7) = w8 at HN7 HU7 ⊢
                      clear c0 f0
                      have hne8 : (Value.slice sa k sc).ownBlock = none ∨ (Value.slice sa k sc).ownBlock ≠ (Value.slice va7 (k + 1) vc7).ownBlock := by
                        rcases HF7.out with h | h
                        · rw [h]; exact HNE.out
                        · cases hu : (Value.slice sa k sc).ownBlock with
                          | none => exact .inl rfl
                          | some g =>
                            refine .inr fun e => ?_
                            have q1 := HZU.out g hu
                            have q2 := h g e.symm
                            omega
                      have HNE8 := Lib.hid hne8
                      obtain ⟨vs8, k8, huniq8⟩ := HN7.out.rw'.unique
                      have hk8 := k8
                      rw [HRRL.out] at hk8
                      have HK8 := Lib.hid hk8
                      have HUQ := Lib.hid huniq8
                      obtain ⟨-, -, -, c3, -, -, -, -, f3⟩ := five_sys HN7.out.h0
                      have hw81 : w.heap.size + 1 ≤ w8.heap.size := HN7.out.size
                      clear hne8 k8 hk8 huniq8 hwr1 hz7
                      go_upto_region 19 with (at_builtin; refine wpList_pushF w8 rfl (.tmp 91) (.tmp 93) 66 rfl (w.heap.size + 1) 22 i1 (.slice none 0 0) 24 Try.underlying66 HI1.out hi1z hi1z1 hi1b rfl (.slice ia k ic) k vs8 rfl HK8.out (.slice sa k sc) w8.heap.size rfl rfl (by rfl) (by unfold maxLen; omega) (by omega) hw81 ?_; intro v9 w9 ho9 hg9 hz9 hf9; obtain ⟨hk9, hN9⟩ := HN7.out.pushR (iv' := v9) HU7.out HNE8.out hg9 (fun vs hvs => by rw [HUQ.out vs hvs, HRRL.out]; exact ho9); have HN9 := Lib.hid hN9; obtain ⟨va9, vc9, rfl, -⟩ := ho9.at_; obtain ⟨-, -, -, c3, -, -, -, -, f3⟩ := five_sys hk9; clear ho9 hg9 hk9 hN9 hf9 hz9)
                      generalize w9.setCell ⟨w.heap.size, 3, none⟩ (.slice va9 (k + 1) vc9) = wA at HN9 ⊢
                      clear c3 f3 HN7 HU7 HK8 HUQ HNE8 hw81
                      obtain ⟨X, hX⟩ : ∃ X, X = prodL (ps.take k) := ⟨_, rfl⟩
                      obtain ⟨Y, hY⟩ : ∃ Y, Y = X * p := ⟨_, rfl⟩
                      have hYp : Y = prodL (ps.take (k + 1)) := by rw [take_succ' HP1.out, prodL_snoc, ← hX, hY]
                      have hbd : ∀ i, i ≤ 26 → prodL (ps.take i) < 4294967296 ^ 64 := fun i hi => by
                        have h1 := prodL_lt (l := ps.take i) (fun q hq => HPB.out q (List.mem_of_mem_take hq))
                        have h2 : 4294967296 ^ (ps.take i).length ≤ 4294967296 ^ 26 := Nat.pow_le_pow_right (by omega) (by rw [List.length_take]; omega)
                        have h3 : 4294967296 ^ 26 < 4294967296 ^ 64 := Nat.pow_lt_pow_right (by omega) (by omega)
                        omega
                      have rX : InR (X : Int) := by unfold InR; rw [Int.natAbs_natCast, lim_words, hX]; exact hbd k (by omega)
                      have rY : InR (Y : Int) := by unfold InR; rw [Int.natAbs_natCast, lim_words, hYp]; exact hbd (k + 1) (by omega)
                      have rp : InR (p : Int) := inR_small (by omega)
                      have eY : (X : Int) * (p : Int) = (Y : Int) := by rw [hY]; simp
                      have hmul := fun W => Mul_z (X : Int) (p : Int) rX rp (by rw [eY]; exact rY) W
                      have hofp := fun W => Of_z (p : Int) (by omega) (by omega) W
                      unfold WideOk at hmul
                      rw [eY] at hmul
                      rw [← hX] at HN9
                      obtain ⟨-, c1, c2, -⟩ := five_sys HN9.out.h0
                      obtain ⟨xb, hxb⟩ : ∃ z, z = zN (X : Int) := ⟨_, rfl⟩
                      obtain ⟨xt, hxt⟩ : ∃ z, z = zT (X : Int) := ⟨_, rfl⟩
                      obtain ⟨yb, hyb⟩ : ∃ z, z = zN (Y : Int) := ⟨_, rfl⟩
                      obtain ⟨yt, hyt⟩ : ∃ z, z = zT (Y : Int) := ⟨_, rfl⟩
                      obtain ⟨pb, hpb⟩ : ∃ z, z = zN (p : Int) := ⟨_, rfl⟩
                      obtain ⟨pt, hpt⟩ : ∃ z, z = zT (p : Int) := ⟨_, rfl⟩
                      rw [← hxb, ← hxt, ← hpb, ← hpt, ← hyb, ← hyt] at hmul
                      rw [← hxb] at c1
                      rw [← hxt] at c2
                      rw [← hpb, ← hpt] at hofp
                      have HMUL := Lib.hid hmul
                      have HOFP := Lib.hid hofp
                      have HYB := Lib.hid hyb
                      have HYT := Lib.hid hyt
                      have HYP := Lib.hid hYp
                      have hwA1 : w.heap.size < wA.heap.size := HN9.out.size
                      have w64p : IntKind.i64.wrap (p : Int) = (p : Int) := by rw [IntKind.wrap_i64]; omega
                      clear hmul hofp hxb hxt hyb hyt hpb hpt hX hY hYp hbd rX rY rp eY
                      go_wp2_with fail
                      refine wp_region_late (fun w' => w'.cell? ⟨w.heap.size, 1, none⟩ = some (.bool xb) ∧ w'.cell? ⟨w.heap.size, 2, none⟩ = some (.string xt)) (fun j => decide (j = 16)) (by kernel_rfl) ⟨c1, c2⟩ (fun hHeld => ?_)
                      refine wpAnyD_take 0 (v := ?_) (by kernel_rfl) (by kernel_rfl) rfl (by kernel_rfl) (by kernel_rfl) (fun _ _ _ h => h) (Or.inl ⟨by rfl, ?_⟩) (by assumption) ?_
                      rotate_left
                      · (intro wq hSq; (try dsimp only at hSq); go_simp; try with_reducible rfl)
                      try simp only [Act.put, List.setIfInBounds_toArray, List.set_cons_zero, List.set_cons_succ]
                      refine wpAnyD_take 1 (v := ?_) (by kernel_rfl) (by kernel_rfl) rfl (by kernel_rfl) (by kernel_rfl) (fun _ _ _ h => h) (Or.inl ⟨by rfl, ?_⟩) (by assumption) ?_
                      rotate_left
                      · (intro wq hSq; (try dsimp only at hSq); go_simp; try with_reducible rfl)
                      try simp only [Act.put, List.setIfInBounds_toArray, List.set_cons_zero, List.set_cons_succ]
                      refine wpAnyD_take 2 (v := ?_) (by kernel_rfl) (by kernel_rfl) rfl (by kernel_rfl) (by kernel_rfl) (fun _ _ _ h => h) (Or.inl ⟨by rfl, ?_⟩) (by assumption) ?_
                      rotate_left
                      · (intro wq hSq; (try dsimp only at hSq); go_simp; try with_reducible rfl)
                      try simp only [Act.put, List.setIfInBounds_toArray, List.set_cons_zero, List.set_cons_succ]
                      refine wpAnyD_take 3 (v := ?_) (by kernel_rfl) (by kernel_rfl) rfl (by kernel_rfl) (by kernel_rfl) (fun _ _ _ h => h) (Or.inl ⟨by rfl, ?_⟩) (by assumption) ?_
                      rotate_left
                      · (intro wq hSq; (try dsimp only at hSq); go_simp; try with_reducible rfl)
                      try simp only [Act.put, List.setIfInBounds_toArray, List.set_cons_zero, List.set_cons_succ]
                      refine wpAnyD_take 4 (v := ?_) (by kernel_rfl) (by kernel_rfl) rfl (by kernel_rfl) (by kernel_rfl) (fun _ _ _ h => h) (Or.inl ⟨by rfl, ?_⟩) (by assumption) ?_
                      rotate_left
                      · (intro wq hSq; (try dsimp only at hSq); go_simp; try with_reducible rfl)
                      try simp only [Act.put, List.setIfInBounds_toArray, List.set_cons_zero, List.set_cons_succ]
                      refine wpAnyD_take 5 (v := ?_) (by kernel_rfl) (by kernel_rfl) rfl (by kernel_rfl) (by kernel_rfl) (fun _ _ _ h => h) (Or.inl ⟨by rfl, ?_⟩) (by assumption) ?_
                      rotate_left
                      · (intro wq hSq; (try dsimp only at hSq); go_simp; try with_reducible rfl)
                      try simp only [Act.put, List.setIfInBounds_toArray, List.set_cons_zero, List.set_cons_succ]
                      refine wpAnyD_take 6 (v := ?_) (by kernel_rfl) (by kernel_rfl) rfl (by kernel_rfl) (by kernel_rfl) (fun _ _ _ h => h) (Or.inl ⟨by rfl, ?_⟩) (by assumption) ?_
                      rotate_left
                      · (intro wq hSq; (try dsimp only at hSq); go_simp; try with_reducible rfl)
                      try simp only [Act.put, List.setIfInBounds_toArray, List.set_cons_zero, List.set_cons_succ]
                      refine wpAnyD_take 7 (v := ?_) (by kernel_rfl) (by kernel_rfl) rfl (by kernel_rfl) (by kernel_rfl) (fun _ _ _ h => h) (Or.inl ⟨by rfl, ?_⟩) (by assumption) ?_
                      rotate_left
                      · (intro wq hSq; (try dsimp only at hSq); go_simp; try with_reducible rfl)
                      try simp only [Act.put, List.setIfInBounds_toArray, List.set_cons_zero, List.set_cons_succ]
                      refine wpAnyD_keep 8 (by kernel_rfl) rfl (fun K hK => ?_)
                      go_simp
                      go_at_call 37
                      (with_reducible refine (HOFP.out _).mono ?_)
                      rintro e wB ⟨rfl, hbB⟩
                      have hbB' : Below wA.heap.size wA wB := ((Below.refl wA.heap.size wA).drew).trans hbB
                      refine hK.out _ _ ⟨(hbB'.cell (p := ⟨w.heap.size, 1, none⟩) hwA1).trans c1, (hbB'.cell (p := ⟨w.heap.size, 2, none⟩) hwA1).trans c2⟩ (fun hHeld3 => ?_)
                      have HBB := Lib.hid hbB'
                      clear hK K hHeld hbB hbB'
                      try simp only [Act.put, List.setIfInBounds_toArray, List.set_cons_zero, List.set_cons_succ]
                      refine wpAnyD_keep 9 (by kernel_rfl) rfl (fun K hK => ?_)
                      go_simp
                      go_at_call 51
                      (with_reducible refine (HMUL.out _).mono ?_)
                      rintro e wC ⟨rfl, hbC⟩
                      have hbC' : Below wA.heap.size wA wC := below_via HBB.out hbC
                      refine hK.out _ _ ⟨(hbC'.cell (p := ⟨w.heap.size, 1, none⟩) hwA1).trans c1, (hbC'.cell (p := ⟨w.heap.size, 2, none⟩) hwA1).trans c2⟩ (fun hHeld4 => ?_)
                      have HNC := Lib.hid (HN9.out.below hbC')
                      clear hK K hHeld3 hbC hbC' c1 c2
                      try simp only [Act.put, List.setIfInBounds_toArray, List.set_cons_zero, List.set_cons_succ]
                      refine wpAnyD_takeW 10 (v := ?_) (by kernel_rfl) rfl (by kernel_rfl) (by kernel_rfl) (fun _ _ _ h => h) (Or.inl ⟨by rfl, ?_⟩) ?_
                      rotate_left
                      · (intro wq hSq; (try dsimp only at hSq); go_simp; try with_reducible rfl)
                      try simp only [Act.put, List.setIfInBounds_toArray, List.set_cons_zero, List.set_cons_succ]
                      refine wpAnyD_takeW 11 (v := ?_) (by kernel_rfl) rfl (by kernel_rfl) (by kernel_rfl) (fun _ _ _ h => h) (Or.inl ⟨by rfl, ?_⟩) ?_
                      rotate_left
                      · (intro wq hSq; (try dsimp only at hSq); go_simp; try with_reducible rfl)
                      try simp only [Act.put, List.setIfInBounds_toArray, List.set_cons_zero, List.set_cons_succ]
                      refine wpAnyD_takeW 12 (v := ?_) (by kernel_rfl) rfl (by kernel_rfl) (by kernel_rfl) (fun _ _ _ h => h) (Or.inl ⟨by rfl, ?_⟩) ?_
                      rotate_left
                      · (intro wq hSq; (try dsimp only at hSq); go_simp; try with_reducible rfl)
                      try simp only [Act.put, List.setIfInBounds_toArray, List.set_cons_zero, List.set_cons_succ]
                      refine wpAnyD_takeW 13 (v := ?_) (by kernel_rfl) rfl (by kernel_rfl) (by kernel_rfl) (fun _ _ _ h => h) (Or.inl ⟨by rfl, ?_⟩) ?_
                      rotate_left
                      · (intro wq hSq; (try dsimp only at hSq); go_simp; try with_reducible rfl)
                      try simp only [Act.put, List.setIfInBounds_toArray, List.set_cons_zero, List.set_cons_succ]
                      refine wpAnyD_takeW 14 (v := ?_) (by kernel_rfl) rfl (by kernel_rfl) (by kernel_rfl) (fun _ _ _ h => h) (Or.inl ⟨by rfl, ?_⟩) ?_
                      rotate_left
                      · (intro wq hSq; (try dsimp only at hSq); go_simp; try with_reducible rfl)
                      try simp only [Act.put, List.setIfInBounds_toArray, List.set_cons_zero, List.set_cons_succ]
                      refine wpAnyD_takeW 15 (v := ?_) (by kernel_rfl) rfl (by kernel_rfl) (by kernel_rfl) (fun _ _ _ h => h) (Or.inl ⟨by rfl, ?_⟩) ?_
                      rotate_left
                      · (intro wq hSq; (try dsimp only at hSq); go_simp; try with_reducible rfl)
                      try simp only [Act.put, List.setIfInBounds_toArray, List.set_cons_zero, List.set_cons_succ]
                      refine wpAnyD_step 16 (by kernel_rfl) rfl rfl (fun K hK => ?_)
                      obtain ⟨-, c1, c2, -, -, -, f1, f2, -⟩ := five_sys HNC.out.h0
                      go_simp
                      refine hK.out _ _ ?_
                      clear hK K hHeld4 c1 c2 f1 f2
                      refine wpAnyD_end (by kernel_rfl) ?_
                      go_wp2_with fail
                      go_roundw
                      case rel => exact ⟨k + 1, by omega, by go_num, HTO2.out, _, _, by
                        have h1 := HNC.out.setQ Y
                        rw [← HYB.out, ← HYT.out] at h1
                        rw [take_succ' HP1.out, invRows_take HP1.out, ← HRL.out, prodL_snoc, ← prodL_snoc, ← take_succ' HP1.out, ← HYP.out, take_succ' HP1.out]
                        exact h1⟩
                      case measure => simp [intOf]; omega
        · obtain rfl : k = n := by omega
          obtain rfl : ok = true := HOK.out.2 ⟨by have := HN.out; omega, by have := HN.out; omega, by rw [← HN.out]; exact hto.out⟩
          have h5 := HS0.out
          rw [HN.out, List.take_length, List.take_of_length_le (show (invRows ps).length ≤ ps.length by simp [invRows])] at h5
          have HF := Lib.hid h5
          clear h5 hto HS0
          go_wp2
          rw [HP.out]
          exact ⟨HF.out.bel, rfl, HF.out.so⟩
theorem New_any (ps : List Nat) (pv : Value) (w : World) (hr : w.reads w.heap.size pv (ps.map u32V)) (hpb : ∀ p ∈ ps, p < 4294967296) (ok : Bool) (hok : ok = true ↔ SysP ps) :
    Calls Try.prog 19 #[pv] w (NewRet w ps ok) := by
  refine (New_so ps pv w hr hpb ok hok).mono ?_
  rintro e w' ⟨h1, h2⟩
  refine ⟨h1, ?_⟩
  cases ok with
  | false => exact h2
  | true => exact ⟨h2.1, h2.2.sys⟩
end Go.Proofs.Ytnjblppapmflhaa

/- Wide integers: helpers and walks, in one text (KF1 KF2 KF3 KG1). -/
/- Walks: two lists of words are the same. -/
namespace Go.Proofs.Ytnjblppapmflhaa
set_option linter.all false
open Go.RowKit Go.Shelf Go.BigFrame
theorem take_eqs {α : Type} (xs ys : List α) (k : Nat) (x : α) (h : xs.take k = ys.take k) (hx : xs[k]? = some x) (hy : ys[k]? = some x) : xs.take (k + 1) = ys.take (k + 1) := by
  rw [List.take_add_one, List.take_add_one, h, hx, hy]
set_option maxHeartbeats 4000000 in
theorem samew_any (v1 v2 : Value) (xs ys : List Nat) (B1 B2 : Nat) (w : World) (h1 : w.reads B1 v1 (xs.map u32V)) (h2 : w.reads B2 v2 (ys.map u32V)) :
    Calls Try.prog 14 #[v1, v2] w fun e w' => e = .returned (.bool (decide (xs = ys))) ∧ ∃ n, w' = w.drewN n := by
  have hl1 := h1.le_map
  have hl2 := h2.le_map
  obtain ⟨a1, c1, rfl, hc1, hm1, hs1⟩ := reads_u32 h1
  obtain ⟨a2, c2, rfl, hc2, hm2, hs2⟩ := reads_u32 h2
  have HS1 := Lib.hid hs1
  have HS2 := Lib.hid hs2
  clear hs1 hs2 h1 h2
  by_cases hlen : xs.length = ys.length
  · obtain ⟨m, hm⟩ : ∃ m, m = ys.length := ⟨_, rfl⟩
    have hxm : xs.length = m := by omega
    rw [← hm, hxm]
    rw [← hm] at hl2 hc2
    rw [hxm] at hl1 hc1
    have HXM := Lib.hid hxm
    have HYM := Lib.hid hm
    clear hxm hm hlen
    go_enter Try.func14, Try.ntmps14
    go_wp2
    go_loopw [5] (fun i wx => ∃ k n : Nat, k ≤ m ∧ i = .int .i64 (k : Int) ∧ wx = w.drewN n ∧ Hid (xs.take k = ys.take k)) (fun i _ => m - (intOf i).toNat)
    case atStart => exact ⟨0, 0, Nat.zero_le _, rfl, rfl, by show _ = _; simp⟩
    case round =>
      obtain ⟨k, n0, hk, rfl, rfl, hall⟩ := hrel
      by_cases hlt : k < m
      · obtain ⟨x, hx⟩ : ∃ x, xs[k]? = some x := ⟨xs[k]'(by have := HXM.out; omega), List.getElem?_eq_getElem _⟩
        obtain ⟨y, hy⟩ : ∃ x, ys[k]? = some x := ⟨ys[k]'(by have := HYM.out; omega), List.getElem?_eq_getElem _⟩
        obtain ⟨b1, o1, rfl, _, hcx⟩ := HS1.out k x hx
        obtain ⟨b2, o2, rfl, _, hcy⟩ := HS2.out k y hy
        have HX := Lib.hid hx
        have HY := Lib.hid hy
        clear hx hy
        have i1 : (0 : Int) ≤ (k : Int) := by omega
        have i2 : (k : Int) < (m : Int) := by omega
        by_cases hxy : x = y
        · subst hxy
          have hb : ((x : Int) != (x : Int)) = false := by simp
          go_upto_region 6 with (fail)
          go_quiet (fail)
          go_wp2
          go_roundw
          case rel => exact ⟨k + 1, _, by omega, by go_num, rfl, take_eqs _ _ _ _ hall.out HX.out HY.out⟩
          case measure => simp [intOf]; omega
        · have hb : ((x : Int) != (y : Int)) = true := by rw [bne_iff_ne]; omega
          go_upto_region 6 with (fail)
          go_quiet (fail)
          go_wp2
          go_ret
          refine ⟨ret_bool ?_, _, World.drewN_drewN _ _ _⟩
          symm
          rw [decide_eq_false_iff_not]
          intro e
          have h3 := HX.out
          rw [e, HY.out] at h3
          exact hxy (by simpa using h3.symm)
      · obtain rfl : k = m := by omega
        have h2 := hall.out
        rw [List.take_of_length_le (by have := HXM.out; omega), List.take_of_length_le (by have := HYM.out; omega)] at h2
        have HH := Lib.hid h2
        clear h2 hall
        go_wp2
        go_ret
        exact ⟨ret_bool (by simp [HH.out]), _, rfl⟩
  · obtain ⟨m, hm⟩ : ∃ m, m = ys.length := ⟨_, rfl⟩
    obtain ⟨l, hl⟩ : ∃ l, l = xs.length := ⟨_, rfl⟩
    have HF : Hid (decide (xs = ys) = false) := by
      show _ = _
      rw [decide_eq_false_iff_not]
      intro e
      exact hlen (by rw [e])
    have hb : ((l : Int) != (m : Int)) = true := by rw [bne_iff_ne]; omega
    rw [← hm, ← hl]
    rw [← hl] at hl1 hc1
    rw [← hm] at hl2 hc2
    clear hm hl HS1 HS2 hlen
    go_enter Try.func14, Try.ntmps14
    go_wp2
    go_ret
    exact ⟨ret_bool HF.out.symm, 0, rfl⟩
end Go.Proofs.Ytnjblppapmflhaa

/- Plain: the systems 3, 5, 7 and 3, 5. -/
namespace Go.Proofs.Ytnjblppapmflhaa
set_option linter.all false
open Go.RowKit Go.Shelf Go.WideNum PN
theorem prime3 : PrimeP 3 := ⟨by omega, .inl (by simp [sml])⟩
theorem prime5 : PrimeP 5 := ⟨by omega, .inl (by simp [sml])⟩
theorem prime7 : PrimeP 7 := ⟨by omega, .inl (by simp [sml])⟩
theorem sys357 : SysP [3, 5, 7] := by
  refine ⟨by simp, by simp, ?_⟩
  intro i hi p hp
  match i, hi, hp with
  | 0, _, hp => obtain rfl : 3 = p := by simpa using hp
                exact ⟨by omega, by omega, by simp, prime3⟩
  | 1, _, hp => obtain rfl : 5 = p := by simpa using hp
                exact ⟨by omega, by omega, by simp, prime5⟩
  | 2, _, hp => obtain rfl : 7 = p := by simpa using hp
                exact ⟨by omega, by omega, by simp, prime7⟩
  | n + 3, hi, _ => exact absurd hi (by simp)
theorem nosys353 : ¬ SysP [3, 5, 3] := fun h => by
  have := (h.2.2 2 (by simp) 3 rfl).2.2.1
  simp at this
theorem rowP3 (ps : List Nat) (a b c x y z : Nat) (h1 : x < a) (h2 : y < b) (h3 : z < c) : RowP [a, b, c] [x, y, z] := by
  refine ⟨rfl, ?_⟩
  intro i p r hp hr
  match i, hp, hr with
  | 0, hp, hr => simp at hp hr; omega
  | 1, hp, hr => simp at hp hr; omega
  | 2, hp, hr => simp at hp hr; omega
  | n + 3, hp, _ => simp at hp
theorem join357 : joinZ [3, 5, 7] [1, 0, 6] = -50 := by
  have h1 := crtN_ok sys357.sep (rowP3 [] 3 5 7 1 0 6 (by omega) (by omega) (by omega))
  have h2 : IsCrt [3, 5, 7] [1, 0, 6] 55 := by
    refine ⟨by decide, ?_⟩
    intro i p r hp hr
    match i, hp, hr with
    | 0, hp, hr => simp at hp hr; subst hp; subst hr; exact ⟨18, by omega⟩
    | 1, hp, hr => simp at hp hr; subst hp; subst hr; exact ⟨11, by omega⟩
    | 2, hp, hr => simp at hp hr; subst hp; subst hr; exact ⟨7, by omega⟩
    | n + 3, hp, _ => simp at hp
  unfold joinZ
  have e := IsCrt.uniq (ps := [3, 5, 7]) (rs := [1, 0, 6]) sys357.sep rfl h1 h2
  rw [e]
  decide
theorem join357b : joinZ [3, 5, 7] [1, 2, 3] = 52 := by
  have h1 := crtN_ok sys357.sep (rowP3 [] 3 5 7 1 2 3 (by omega) (by omega) (by omega))
  have h2 : IsCrt [3, 5, 7] [1, 2, 3] 52 := by
    refine ⟨by decide, ?_⟩
    intro i p r hp hr
    match i, hp, hr with
    | 0, hp, hr => simp at hp hr; subst hp; subst hr; exact ⟨17, by omega⟩
    | 1, hp, hr => simp at hp hr; subst hp; subst hr; exact ⟨10, by omega⟩
    | 2, hp, hr => simp at hp hr; subst hp; subst hr; exact ⟨7, by omega⟩
    | n + 3, hp, _ => simp at hp
  unfold joinZ
  have e := IsCrt.uniq (ps := [3, 5, 7]) (rs := [1, 2, 3]) sys357.sep rfl h1 h2
  rw [e]
  decide
theorem prod357 : prodL [3, 5, 7] = 105 := by decide
theorem res357 : splitF [3, 5, 7] (zN 52) (zT 52) = ([1, 2, 3], 0) := by
  have h := z_valid (show InR 52 from inR_small (by omega))
  unfold splitF
  rw [h.1, if_pos rfl, show zV (zN 52) (zT 52) = 52 from h.2]
  decide
theorem inv27 : invN 2 7 = 4 := by
  have := invN_spec (a := 2) (n := 7) (by omega) (by omega) (by omega) (by decide)
  omega
theorem drop357 : dropF [3, 5, 7] [1, 2, 3] true = ([1, 2], 3, 0) := by
  unfold dropF dropD
  rw [if_pos rfl, join357b]
  decide
theorem scale357 : scaleF [3, 5, 7] [1, 2, 3] 2 true = ([2, 3], 0) := by
  unfold scaleF scaleD scaleE
  rw [if_pos rfl, join357b, show 2 % lastP [3, 5, 7] = 2 by decide, show lastP [3, 5, 7] = 7 by decide, inv27]
  decide
theorem ok357 (a b c : Nat) (h1 : a < 3) (h2 : b < 5) (h3 : c < 7) : (true = true ↔ RowP [3, 5, 7] [a, b, c]) := ⟨fun _ => rowP3 [] 3 5 7 a b c h1 h2 h3, fun _ => rfl⟩
end Go.Proofs.Ytnjblppapmflhaa

/- Walks: what the law shows. -/
namespace Go.Proofs.Ytnjblppapmflhaa
set_option linter.all false
open Go.RowKit Go.Shelf Go.WideNum PN
theorem lit3 (W : World) (a b c : Nat) : (W.alloc (.cells #[.int .u32 (a : Int), .int .u32 (b : Int), .int .u32 (c : Int)] 23)).reads (W.heap.size + 1) (.slice (some ⟨W.heap.size, 0, none⟩) 3 3) ([a, b, c].map u32V) :=
  reads_alloc_new W ([a, b, c].map u32V) 23 3 (by simp) (by decide)
theorem lit2 (W : World) (a b : Nat) : (W.alloc (.cells #[.int .u32 (a : Int), .int .u32 (b : Int)] 23)).reads (W.heap.size + 1) (.slice (some ⟨W.heap.size, 0, none⟩) 2 2) ([a, b].map u32V) :=
  reads_alloc_new W ([a, b].map u32V) 23 2 (by simp) (by decide)
theorem new3 (W : World) (a b c : Nat) (ha : a < 4294967296) (hb : b < 4294967296) (hc : c < 4294967296) (ok : Bool) (hok : ok = true ↔ SysP [a, b, c]) :
    Calls Try.prog 19 #[.slice (some ⟨W.heap.size, 0, none⟩) 3 3] (W.alloc (.cells #[.int .u32 (a : Int), .int .u32 (b : Int), .int .u32 (c : Int)] 23)) (NewRet (W.alloc (.cells #[.int .u32 (a : Int), .int .u32 (b : Int), .int .u32 (c : Int)] 23)) [a, b, c] ok) :=
  New_any [a, b, c] _ _ ((lit3 W a b c).mono (by simp)) (by intro p hp; simp at hp; omega) ok hok
theorem keepA {W : World} {p j : Nat} {v : Value} (h : W.cell? ⟨p, j, none⟩ = some v) (hl : p < W.heap.size) (o : Obj) : (W.alloc o).cell? ⟨p, j, none⟩ = some v :=
  (((Below.refl W.heap.size W).alloc (Nat.le_refl _) o).cell (p := ⟨p, j, none⟩) hl).trans h
theorem same3 (a b c : Nat) (W : World) (v : Value) (h : W.reads W.heap.size v ([a, b, c].map u32V)) :
    Calls Try.prog 14 #[v, .slice (some ⟨W.heap.size, 0, none⟩) 3 3] (W.alloc (.cells #[.int .u32 (a : Int), .int .u32 (b : Int), .int .u32 (c : Int)] 23)) fun e w' => e = .returned (.bool true) ∧ Below W.heap.size W w' := by
  refine (samew_any v _ [a, b, c] [a, b, c] _ _ _ (h.below ((Below.refl W.heap.size W).alloc (Nat.le_refl _) _)) (lit3 W a b c)).mono ?_
  rintro e w' ⟨rfl, n, rfl⟩
  refine ⟨by simp, ?_⟩
  exact below_drewN ((Below.refl W.heap.size W).alloc (Nat.le_refl _) _) _
theorem same2 (a b : Nat) (W : World) (v : Value) (h : W.reads W.heap.size v ([a, b].map u32V)) :
    Calls Try.prog 14 #[v, .slice (some ⟨W.heap.size, 0, none⟩) 2 2] (W.alloc (.cells #[.int .u32 (a : Int), .int .u32 (b : Int)] 23)) fun e w' => e = .returned (.bool true) ∧ Below W.heap.size W w' := by
  refine (samew_any v _ [a, b] [a, b] _ _ _ (h.below ((Below.refl W.heap.size W).alloc (Nat.le_refl _) _)) (lit2 W a b)).mono ?_
  rintro e w' ⟨rfl, n, rfl⟩
  refine ⟨by simp, ?_⟩
  exact below_drewN ((Below.refl W.heap.size W).alloc (Nat.le_refl _) _) _
set_option maxRecDepth 100000 in
set_option maxHeartbeats 8000000 in
theorem shown_any (w : World) : Calls Try.prog 9 #[] w fun e w' => e = .returned (.bool true) ∧ Below w.heap.size w w' := by
  have HN1 : Hid (∀ W : World, Calls Try.prog 19 #[.slice (some ⟨W.heap.size, 0, none⟩) 3 3] (W.alloc (.cells #[.int .u32 3, .int .u32 5, .int .u32 7] 23)) (NewRet (W.alloc (.cells #[.int .u32 3, .int .u32 5, .int .u32 7] 23)) [3, 5, 7] true)) := fun W => new3 W 3 5 7 (by omega) (by omega) (by omega) true ⟨fun _ => sys357, fun _ => rfl⟩
  have HN2 : Hid (∀ W : World, Calls Try.prog 19 #[.slice (some ⟨W.heap.size, 0, none⟩) 3 3] (W.alloc (.cells #[.int .u32 3, .int .u32 5, .int .u32 3] 23)) (NewRet (W.alloc (.cells #[.int .u32 3, .int .u32 5, .int .u32 3] 23)) [3, 5, 3] false)) := fun W => new3 W 3 5 3 (by omega) (by omega) (by omega) false ⟨fun h => (by cases h), fun h => absurd h nosys353⟩
  have HSP : Hid (∀ (b : Nat) (W : World), SysAt W b [3, 5, 7] → Calls Try.prog 20 #[.pointer (some ⟨b, 0, none⟩), .agg #[.bool (zN 52), .string (zT 52)]] W (RowE W [1, 2, 3] 0)) := fun b W h => by
    have := Split_any b [3, 5, 7] (zN 52) (zT 52) (z_size (inR_small (by omega))) W h sys357
    rwa [res357] at this
  have HJ : Hid (∀ (b : Nat) (W : World), SysAt W b [3, 5, 7] → Calls Try.prog 21 #[.pointer (some ⟨b, 0, none⟩), .slice (some ⟨W.heap.size, 0, none⟩) 3 3] (W.alloc (.cells #[.int .u32 1, .int .u32 0, .int .u32 6] 23)) (FormE (W.alloc (.cells #[.int .u32 1, .int .u32 0, .int .u32 6] 23)) (-50) 0)) := fun b W h => by
    have := Join_any b [3, 5, 7] [1, 0, 6] _ (W.alloc (.cells #[.int .u32 1, .int .u32 0, .int .u32 6] 23)) (h.alloc _) sys357 ((lit3 W 1 0 6).mono (by simp)) true (ok357 1 0 6 (by omega) (by omega) (by omega))
    rwa [if_pos rfl, if_pos rfl, join357] at this
  have HD : Hid (∀ (b : Nat) (W : World), SysAt W b [3, 5, 7] → Calls Try.prog 12 #[.pointer (some ⟨b, 0, none⟩), .slice (some ⟨W.heap.size, 0, none⟩) 3 3] (W.alloc (.cells #[.int .u32 1, .int .u32 2, .int .u32 3] 23)) (DropE (W.alloc (.cells #[.int .u32 1, .int .u32 2, .int .u32 3] 23)) [1, 2] 3 0)) := fun b W h => by
    have := Drop_any b [3, 5, 7] [1, 2, 3] _ (W.alloc (.cells #[.int .u32 1, .int .u32 2, .int .u32 3] 23)) (h.alloc _) sys357 ((lit3 W 1 2 3).mono (by simp)) true (ok357 1 2 3 (by omega) (by omega) (by omega))
    rwa [drop357] at this
  have HC : Hid (∀ (b : Nat) (W : World), SysAt W b [3, 5, 7] → Calls Try.prog 15 #[.pointer (some ⟨b, 0, none⟩), .slice (some ⟨W.heap.size, 0, none⟩) 3 3, .int .u32 2] (W.alloc (.cells #[.int .u32 1, .int .u32 2, .int .u32 3] 23)) (RowE (W.alloc (.cells #[.int .u32 1, .int .u32 2, .int .u32 3] 23)) [2, 3] 0)) := fun b W h => by
    have := Scale_any b [3, 5, 7] [1, 2, 3] _ 2 (by omega) (W.alloc (.cells #[.int .u32 1, .int .u32 2, .int .u32 3] 23)) (h.alloc _) sys357 ((lit3 W 1 2 3).mono (by simp)) true (ok357 1 2 3 (by omega) (by omega) (by omega))
    rwa [scale357] at this
  have HO : Hid (∀ (n : Int) (W : World), -1000 < n → n < 1000 → Calls Try.prog 37 #[.int .i64 n] W fun e w' => e = .returned (.agg #[.bool (zN n), .string (zT n)]) ∧ Below W.heap.size W w') := fun n W h1 h2 => Of_z n (by omega) (by omega) W
  have HW3 : Hid (∀ (W : World) (v : Value), W.reads W.heap.size v ([1, 2, 3].map u32V) → Calls Try.prog 14 #[v, .slice (some ⟨W.heap.size, 0, none⟩) 3 3] (W.alloc (.cells #[.int .u32 1, .int .u32 2, .int .u32 3] 23)) fun e w' => e = .returned (.bool true) ∧ Below W.heap.size W w') := fun W v h => same3 1 2 3 W v h
  have HW2 : Hid (∀ (W : World) (v : Value), W.reads W.heap.size v ([1, 2].map u32V) → Calls Try.prog 14 #[v, .slice (some ⟨W.heap.size, 0, none⟩) 2 2] (W.alloc (.cells #[.int .u32 1, .int .u32 2] 23)) fun e w' => e = .returned (.bool true) ∧ Below W.heap.size W w') := fun W v h => same2 1 2 W v h
  have HW2b : Hid (∀ (W : World) (v : Value), W.reads W.heap.size v ([2, 3].map u32V) → Calls Try.prog 14 #[v, .slice (some ⟨W.heap.size, 0, none⟩) 2 2] (W.alloc (.cells #[.int .u32 2, .int .u32 3] 23)) fun e w' => e = .returned (.bool true) ∧ Below W.heap.size W w') := fun W v h => same2 2 3 W v h
  go_enter Try.func9, Try.ntmps9
  go_wp2_with fail
  (with_reducible refine (HN1.out _).mono ?_)
  rintro e w1 ⟨hb1, he1, hs1⟩
  subst he1
  obtain ⟨b, hbb⟩ : ∃ b, b = (w.alloc (.cells #[.int .u32 3, .int .u32 5, .int .u32 7] 23)).heap.size := ⟨_, rfl⟩
  rw [← hbb] at hs1 ⊢
  have B1 : Hid (Below w.heap.size w w1) := below_via ((Below.refl w.heap.size w).alloc (Nat.le_refl _) _) hb1
  have S1 := Lib.hid hs1
  clear hb1 hs1 hbb
  go_wp2_with fail
  (with_reducible refine (HN2.out _).mono ?_)
  rintro e w2 ⟨hb2, he2⟩
  subst he2
  have hb12 := below_via ((Below.refl w1.heap.size w1).alloc (Nat.le_refl _) _) hb2
  have B2 := Lib.hid (below_via B1.out hb12)
  have S2 := Lib.hid (S1.out.below hb12)
  clear hb2 hb12 S1 B1
  go_wp2_with fail
  (with_reducible refine (HO.out 52 _ (by omega) (by omega)).mono ?_)
  rintro e w3 ⟨rfl, hb3⟩
  have B3 := Lib.hid (below_via B2.out hb3)
  have S3 := Lib.hid (S2.out.below hb3)
  clear hb3 S2 B2
  go_wp2_with fail
  (with_reducible refine (HSP.out _ _ S3.out).mono ?_)
  rintro e w4 ⟨r, rfl, hr, hb4⟩
  have B4 := Lib.hid (below_via B3.out hb4)
  have S4 := Lib.hid (S3.out.below hb4)
  have R4 : Hid (w4.reads w4.heap.size r ([1, 2, 3].map u32V)) := hr.reads
  obtain ⟨ra, rc, rfl, -⟩ := reads_u32 R4.out
  clear hb4 S3 B3 hr
  go_wp2_with fail
  (with_reducible refine (HJ.out _ _ S4.out).mono ?_)
  rintro e w5 ⟨rfl, hb5⟩
  have hb45 := below_via ((Below.refl w4.heap.size w4).alloc (Nat.le_refl _) _) hb5
  have B5 := Lib.hid (below_via B4.out hb45)
  have S5 := Lib.hid (S4.out.below hb45)
  have R5 := Lib.hid ((R4.out.below hb45).mono hb45.size)
  clear hb5 hb45 S4 B4 R4
  go_upto_region 7 with (fail)
  obtain ⟨p, hp⟩ : ∃ p, p = w5.heap.size := ⟨_, rfl⟩
  obtain ⟨zn, hzn⟩ : ∃ z, z = zN (-50) := ⟨_, rfl⟩
  obtain ⟨zt, hzt⟩ : ∃ z, z = zT (-50) := ⟨_, rfl⟩
  rw [← hzn, ← hzt]
  have ZN := Lib.hid hzn
  have ZT := Lib.hid hzt
  have hab : Below w5.heap.size w5 (w5.alloc (.cells #[.bool zn, .string zt] 38)) := (Below.refl _ _).alloc (Nat.le_refl _) _
  have hg : (w5.alloc (.cells #[.bool zn, .string zt] 38)).heap[p]? = some (.cells #[.bool zn, .string zt] 38) := by rw [hp]; exact heap_alloc_new w5 _
  rw [← hp]
  clear hzn hzt hp
  generalize w5.alloc (.cells #[.bool zn, .string zt] 38) = w6 at hab hg ⊢
  have B6 := Lib.hid (below_via B5.out hab)
  have S6 := Lib.hid (S5.out.below hab)
  have R6 := Lib.hid ((R5.out.below hab).mono hab.size)
  have P6 := Lib.hid hg
  clear hab hg S5 B5 R5
  go_wp2_with fail
  (with_reducible refine (HD.out _ _ S6.out).mono ?_)
  rintro e w7 ⟨l, rfl, hl, hb7⟩
  have hb67 := below_via ((Below.refl w6.heap.size w6).alloc (Nat.le_refl _) _) hb7
  have B7 := Lib.hid (below_via B6.out hb67)
  have S7 := Lib.hid (S6.out.below hb67)
  have R7 := Lib.hid ((R6.out.below hb67).mono hb67.size)
  have P7 := Lib.hid ((hb67.block _ (lt_of_heap P6.out)).trans P6.out)
  have L7 : Hid (w7.reads w7.heap.size l ([1, 2].map u32V)) := hl.reads
  obtain ⟨la, lc, rfl, -⟩ := reads_u32 L7.out
  clear hb7 hb67 S6 B6 R6 P6 hl
  go_wp2_with fail
  (with_reducible refine (HC.out _ _ S7.out).mono ?_)
  rintro e w8 ⟨k, rfl, hk, hb8⟩
  have hb78 := below_via ((Below.refl w7.heap.size w7).alloc (Nat.le_refl _) _) hb8
  have B8 := Lib.hid (below_via B7.out hb78)
  have S8 := Lib.hid (S7.out.below hb78)
  have R8 := Lib.hid ((R7.out.below hb78).mono hb78.size)
  have P8 := Lib.hid ((hb78.block _ (lt_of_heap P7.out)).trans P7.out)
  have L8 := Lib.hid ((L7.out.below hb78).mono hb78.size)
  have K8 : Hid (w8.reads w8.heap.size k ([2, 3].map u32V)) := hk.reads
  obtain ⟨ka, kc, rfl, -⟩ := reads_u32 K8.out
  clear hb8 hb78 S7 B7 R7 P7 L7 hk
  go_upto_region 9 with (fail)
  obtain ⟨c0, c1, -⟩ := wide_cells P8.out
  have l0 := lt_of_heap P8.out
  obtain ⟨n1, hn1⟩ : ∃ z, z = zN 105 := ⟨_, rfl⟩
  obtain ⟨t1, ht1⟩ : ∃ z, z = zT 105 := ⟨_, rfl⟩
  have HO1 : Hid (∀ W : World, Calls Try.prog 37 #[.int .i64 105] W fun e w' => e = .returned (.agg #[.bool n1, .string t1]) ∧ Below W.heap.size W w') := fun W => by
    rw [hn1, ht1]; exact HO.out 105 W (by omega) (by omega)
  have HO2 : Hid (∀ W : World, Calls Try.prog 37 #[.int .i64 (-50)] W fun e w' => e = .returned (.agg #[.bool zn, .string zt]) ∧ Below W.heap.size W w') := fun W => by
    rw [ZN.out, ZT.out]; exact HO.out (-50) W (by omega) (by omega)
  have HP : Hid (∀ W : World, SysAt W b [3, 5, 7] → Calls Try.prog 27 #[.pointer (some ⟨b, 0, none⟩)] W fun e w' => e = .returned (.agg #[.bool n1, .string t1]) ∧ Below W.heap.size W w') := fun W h => by
    have := Product_any b [3, 5, 7] W h
    rw [prod357] at this
    rw [hn1, ht1]
    exact this
  clear hn1 ht1
  go_region_held3 (fun w' => w'.cell? ⟨p, 0, none⟩ = some (.bool zn) ∧ w'.cell? ⟨p, 1, none⟩ = some (.string zt))
    (first | exact ⟨c0, c1⟩ | (refine ⟨?_, ?_⟩ <;> assumption) | exact ⟨keepA c0 l0 _, keepA c1 l0 _⟩)
    (first
      | (go_simp; go_at_call 27; (with_reducible refine (HP.out _ (by with_unfolding_all exact S8.out)).mono ?_); rintro e w9 ⟨rfl, hb9⟩; replace hb9 : Below w8.heap.size w8 w9 := (by first | exact hb9 | exact below_viaD (Below.refl _ _) hb9); have B9 := Lib.hid (below_via B8.out hb9); have R9 := Lib.hid ((R8.out.below hb9).mono hb9.size); have L9 := Lib.hid ((L8.out.below hb9).mono hb9.size); have K9 := Lib.hid ((K8.out.below hb9).mono hb9.size); replace c0 := (hb9.cell (p := ⟨p, 0, none⟩) l0).trans c0; replace c1 := (hb9.cell (p := ⟨p, 1, none⟩) l0).trans c1; replace l0 := Nat.lt_of_lt_of_le l0 hb9.size; clear hb9 S8 B8 R8 L8 K8)
      | (go_simp; go_at_call 37; (with_reducible refine (HO1.out _).mono ?_); rintro e w10 ⟨rfl, hb9⟩; replace hb9 : Below w9.heap.size w9 w10 := (by first | exact hb9 | exact below_viaD (Below.refl _ _) hb9); have B10 := Lib.hid (below_via B9.out hb9); have R10 := Lib.hid ((R9.out.below hb9).mono hb9.size); have L10 := Lib.hid ((L9.out.below hb9).mono hb9.size); have K10 := Lib.hid ((K9.out.below hb9).mono hb9.size); replace c0 := (hb9.cell (p := ⟨p, 0, none⟩) l0).trans c0; replace c1 := (hb9.cell (p := ⟨p, 1, none⟩) l0).trans c1; replace l0 := Nat.lt_of_lt_of_le l0 hb9.size; clear hb9 B9 R9 L9 K9)
      | (go_simp; go_at_call 14; (with_reducible refine (HW3.out _ _ (by with_unfolding_all exact R10.out)).mono ?_); rintro e w11 ⟨rfl, hb9⟩; replace hb9 : Below w10.heap.size w10 w11 := (by first | exact hb9 | exact below_viaD (Below.refl _ _) hb9); have B11 := Lib.hid (below_via B10.out hb9); have L11 := Lib.hid ((L10.out.below hb9).mono hb9.size); have K11 := Lib.hid ((K10.out.below hb9).mono hb9.size); replace c0 := (hb9.cell (p := ⟨p, 0, none⟩) l0).trans c0; replace c1 := (hb9.cell (p := ⟨p, 1, none⟩) l0).trans c1; replace l0 := Nat.lt_of_lt_of_le l0 hb9.size; clear hb9 B10 R10 L10 K10)
      | (go_simp; go_at_call 37; (with_reducible refine (HO2.out _).mono ?_); rintro e w12 ⟨rfl, hb9⟩; replace hb9 : Below w11.heap.size w11 w12 := (by first | exact hb9 | exact below_viaD (Below.refl _ _) hb9); have B12 := Lib.hid (below_via B11.out hb9); have L12 := Lib.hid ((L11.out.below hb9).mono hb9.size); have K12 := Lib.hid ((K11.out.below hb9).mono hb9.size); replace c0 := (hb9.cell (p := ⟨p, 0, none⟩) l0).trans c0; replace c1 := (hb9.cell (p := ⟨p, 1, none⟩) l0).trans c1; replace l0 := Nat.lt_of_lt_of_le l0 hb9.size; clear hb9 B11 L11 K11)
      | (go_simp; go_at_call 14; (with_reducible refine (HW2.out _ _ (by with_unfolding_all exact L12.out)).mono ?_); rintro e w13 ⟨rfl, hb9⟩; replace hb9 : Below w12.heap.size w12 w13 := (by first | exact hb9 | exact below_viaD (Below.refl _ _) hb9); have B13 := Lib.hid (below_via B12.out hb9); have K13 := Lib.hid ((K12.out.below hb9).mono hb9.size); replace c0 := (hb9.cell (p := ⟨p, 0, none⟩) l0).trans c0; replace c1 := (hb9.cell (p := ⟨p, 1, none⟩) l0).trans c1; replace l0 := Nat.lt_of_lt_of_le l0 hb9.size; clear hb9 B12 L12 K12)
      | (go_simp; go_at_call 14; (with_reducible refine (HW2b.out _ _ (by with_unfolding_all exact K13.out)).mono ?_); rintro e w14 ⟨rfl, hb9⟩; replace hb9 : Below w13.heap.size w13 w14 := (by first | exact hb9 | exact below_viaD (Below.refl _ _) hb9); have B14 := Lib.hid (below_via B13.out hb9); replace c0 := (hb9.cell (p := ⟨p, 0, none⟩) l0).trans c0; replace c1 := (hb9.cell (p := ⟨p, 1, none⟩) l0).trans c1; replace l0 := Nat.lt_of_lt_of_le l0 hb9.size; clear hb9 B13 K13))
  go_wp2
  go_ret
  exact ⟨rfl, B14.out⟩
end Go.Proofs.Ytnjblppapmflhaa

/- Plain: the integer of a row of residues. -/

/- Walks: the reference's system; whether residues are a row. -/
namespace Go.Proofs.Ytnjblppapmflhaa
set_option linter.all false
open Go.RowKit Go.Shelf Go.WideNum PN
/-- A system of the reference's. -/
def RefAt (w : World) (b : Nat) (ps : List Nat) : Prop := ∃ pv, w.heap[b]? = some (.cells #[pv, .bool (zN (prodL ps)), .string (zT (prodL ps))] 64) ∧ w.reads w.heap.size pv (ps.map u32V)
theorem RefAt.below {w w' : World} {b : Nat} {ps : List Nat} (h : RefAt w b ps) (hb : Below w.heap.size w w') : RefAt w' b ps := by
  obtain ⟨pv, h1, h2⟩ := h
  exact ⟨pv, (hb.block _ (lt_of_heap h1)).trans h1, (h2.below hb).mono hb.size⟩
theorem RefAt.drewN {w : World} {b : Nat} {ps : List Nat} (h : RefAt w b ps) (n : Nat) : RefAt (w.drewN n) b ps := h
theorem RefAt.drew {w : World} {b : Nat} {ps : List Nat} (h : RefAt w b ps) : RefAt w.drew b ps := h
theorem RefAt.alloc {w : World} {b : Nat} {ps : List Nat} (h : RefAt w b ps) (o : Obj) : RefAt (w.alloc o) b ps := h.below ((Below.refl _ _).alloc (Nat.le_refl _) _)
theorem three_ref {w : World} {b : Nat} {v0 v1 v2 : Value} {T : TypeId} (h : w.heap[b]? = some (.cells #[v0, v1, v2] T)) :
    w.cell? ⟨b, 0, none⟩ = some v0 ∧ w.cell? ⟨b, 1, none⟩ = some v1 ∧ w.cell? ⟨b, 2, none⟩ = some v2 ∧ w.frozen? ⟨b, 0, none⟩ = false ∧ w.frozen? ⟨b, 1, none⟩ = false ∧ w.frozen? ⟨b, 2, none⟩ = false :=
  ⟨by rw [cell_of_row w b 0 _ _ (0, 0) h]; rfl, by rw [cell_of_row w b 1 _ _ (0, 0) h]; rfl, by rw [cell_of_row w b 2 _ _ (0, 0) h]; rfl, by simp [World.frozen?, h], by simp [World.frozen?, h], by simp [World.frozen?, h]⟩
set_option maxHeartbeats 4000000 in
theorem refRow_any (b : Nat) (ps rs : List Nat) (rv : Value) (w : World) (hs : RefAt w b ps) (hr : w.reads w.heap.size rv (rs.map u32V)) (ok : Bool) (hok : ok = true ↔ RowP ps rs) :
    Calls Try.prog 42 #[.pointer (some ⟨b, 0, none⟩), rv] w fun e w' => e = .returned (.bool ok) ∧ ∃ n, w' = w.drewN n := by
  obtain ⟨lv, h1, h2⟩ := hs
  obtain ⟨c0, -⟩ := three_ref h1
  have hl1 := hr.le_map
  have hl2 := h2.le_map
  obtain ⟨ra, rc, rfl, hrc, hrm, hrs⟩ := reads_u32 hr
  obtain ⟨pa, pc, rfl, hpc, hpm, hps⟩ := reads_u32 h2
  have HOK := Lib.hid hok
  have HR := Lib.hid hrs
  have HS := Lib.hid hps
  clear h1 h2 hr hrs hps hok
  by_cases hlen : rs.length = ps.length
  · have HLEN := Lib.hid hlen
    obtain ⟨n, hn⟩ : ∃ n, n = ps.length := ⟨_, rfl⟩
    rw [hlen, ← hn] at hl1 hrc ⊢
    rw [← hn] at hpc hl2 c0
    have HN := Lib.hid hn
    clear hlen hn
    have t0 : ((n : Int) != (n : Int)) = false := by simp
    go_enter Try.func42, Try.ntmps42
    go_wp2
    go_loopw [5] (fun iv wx => ∃ k d : Nat, k ≤ n ∧ iv = .int .i64 (k : Int) ∧ wx = w.drewN d ∧ Hid (∀ j, j < k → ∀ p r : Nat, ps[j]? = some p → rs[j]? = some r → r < p)) (fun iv _ => n - (intOf iv).toNat)
    case atStart => exact ⟨0, 0, Nat.zero_le _, rfl, rfl, fun j hj => by omega⟩
    case round =>
      obtain ⟨k, d, hk, rfl, rfl, hall⟩ := hrel
      by_cases hlt : k < n
      · have hkp : k < ps.length := by rw [← HN.out]; exact hlt
        have hkr : k < rs.length := by rw [HLEN.out]; exact hkp
        obtain ⟨p, hp⟩ : ∃ p, ps[k]? = some p := ⟨ps[k], List.getElem?_eq_getElem hkp⟩
        obtain ⟨r, hr⟩ : ∃ r, rs[k]? = some r := ⟨rs[k], List.getElem?_eq_getElem hkr⟩
        obtain ⟨b1, o1, rfl, _, d1⟩ := HR.out k r hr
        obtain ⟨b2, o2, rfl, _, d2⟩ := HS.out k p hp
        have HP := Lib.hid hp
        have HRR := Lib.hid hr
        have i1 : (0 : Int) ≤ (k : Int) := by omega
        have i2 : (k : Int) < (n : Int) := by omega
        clear hp hr hkp hkr
        by_cases hrp : r < p
        · have hnge : ¬ (p : Int) ≤ (r : Int) := by omega
          have HALL : Hid (∀ j, j < k + 1 → ∀ p r : Nat, ps[j]? = some p → rs[j]? = some r → r < p) := fun j hj p' r' hp' hr' => by
            rcases (show j < k ∨ j = k by omega) with h | rfl
            · exact hall.out j h p' r' hp' hr'
            · rw [HP.out] at hp'; rw [HRR.out] at hr'
              injection hp' with hp'; injection hr' with hr'
              omega
          clear hall
          go_upto_region 6 with (fail)
          go_quiet (fail)
          go_wp2
          go_roundw
          case rel => exact ⟨k + 1, _, by omega, by go_num, rfl, HALL.out⟩
          case measure => simp [intOf]; omega
        · have hge : (p : Int) ≤ (r : Int) := by omega
          obtain rfl : ok = false := by
            cases h : ok
            · rfl
            · exact absurd ((HOK.out.1 h).2 k p r HP.out HRR.out) hrp
          clear hall
          go_upto_region 6 with (fail)
          go_quiet (fail)
          go_wp2
          go_ret
          exact ⟨rfl, _, World.drewN_drewN _ _ _⟩
      · obtain rfl : ok = true := HOK.out.2 (rowP_to (fun j hj => hall.out j (by have := HN.out; omega)) HLEN.out)
        clear hall
        go_wp2
        go_ret
        exact ⟨rfl, _, rfl⟩
  · obtain rfl : ok = false := by
      cases h : ok
      · rfl
      · exact absurd (HOK.out.1 h).1 hlen
    have t0 : ((rs.length : Int) != (ps.length : Int)) = true := by rw [bne_iff_ne]; omega
    go_enter Try.func42, Try.ntmps42
    go_wp2
    go_ret
    exact ⟨rfl, 0, rfl⟩
end Go.Proofs.Ytnjblppapmflhaa

/- Walks: a list that is lent. -/
namespace Go.Proofs.Ytnjblppapmflhaa
set_option linter.all false
open Go.RowKit Go.Shelf Go.WideNum PN
/-- own is a lent copy of the list l that v holds: behind it stands the mark. -/
def Lent (w : World) (v own : Value) (l : List Nat) : Prop :=
  (v = .slice none 0 0 ∧ own = .slice none 0 0 ∧ l = []) ∨
  (∃ x n c, v = .slice (some x) n c) ∧ ∃ g c, own = .slice (some ⟨g, 0, none⟩) l.length c ∧ w.reads w.heap.size (.slice (some ⟨g, 0, none⟩) (l.length + 1) c) ((l ++ [77177]).map u32V)
theorem Lent.below {w w' : World} {v own : Value} {l : List Nat} (h : Lent w v own l) (hb : Below w.heap.size w w') : Lent w' v own l := by
  rcases h with h | ⟨h0, g, c, h1, h2⟩
  · exact .inl h
  · exact .inr ⟨h0, g, c, h1, (h2.below hb).mono hb.size⟩
theorem Lent.reads {w : World} {v own : Value} {l : List Nat} (h : Lent w v own l) : w.reads w.heap.size own (l.map u32V) := by
  rcases h with ⟨-, rfl, rfl⟩ | ⟨-, g, c, rfl, h2⟩
  · exact reads_nil _ _
  · have := h2.take l.length (by omega)
    rwa [← List.map_take, List.take_left' rfl] at this
/-- A lent copy whose block is the caller's own. -/
def LentO (B : Nat) (w : World) (v own : Value) (l : List Nat) : Prop :=
  (v = .slice none 0 0 ∧ own = .slice none 0 0 ∧ l = []) ∨
  (∃ x n c, v = .slice (some x) n c) ∧ ∃ g c, own = .slice (some ⟨g, 0, none⟩) l.length c ∧ w.owns B 23 1 (.slice (some ⟨g, 0, none⟩) (l.length + 1) c) (l.length + 1) ((l ++ [77177]).map u32V)
theorem LentO.lent {B : Nat} {w : World} {v own : Value} {l : List Nat} (h : LentO B w v own l) : Lent w v own l := by
  rcases h with h | ⟨h0, g, c, h1, h2⟩
  · exact .inl h
  · exact .inr ⟨h0, g, c, h1, h2.reads⟩
theorem LentO.below {B : Nat} {w w' : World} {v own : Value} {l : List Nat} (h : LentO B w v own l) (hb : Below w.heap.size w w') : LentO B w' v own l := by
  rcases h with h | ⟨h0, g, c, h1, h2⟩
  · exact .inl h
  · exact .inr ⟨h0, g, c, h1, h2.below hb⟩
theorem owns_spare (W : World) (n : Nat) (hn : n ≤ 100000) : (W.alloc (.cells (zrow n) 23)).owns W.heap.size 23 1 (.slice (some ⟨W.heap.size, 0, none⟩) 0 n) 0 [] :=
  ⟨by simp, .inr ⟨W.heap.size, n, zrow n, (0, 0), rfl, Nat.le_refl _, heap_alloc_new W _, okFz_zero _, Nat.zero_le _, by unfold maxLen; omega, by simp [zrow], by simp⟩⟩
set_option maxRecDepth 100000 in
set_option maxHeartbeats 4000000 in
theorem Lend_own (l : List Nat) (v : Value) (hl : l.length ≤ 1000) (w : World) (hr : w.reads w.heap.size v (l.map u32V)) :
    Calls Try.prog 11 #[v] w fun e w' => ∃ own, e = .returned own ∧ LentO w.heap.size w' v own l ∧ Below w.heap.size w w' := by
  have hr0 := hr
  obtain ⟨a, cap, rfl, h0, hle, hmx, -⟩ := hr0
  cases a with
  | none =>
    obtain rfl := h0 rfl
    have hl0 : l = [] := by
      have : l.length = 0 := by simpa using hle
      exact List.length_eq_zero_iff.1 this
    subst hl0
    have heq : ∀ W : World, (binOp .eql 22 (.slice none 0 0) (.slice none 0 0)).run Try.prog W = .ok (.bool true) W := fun W => by kernel_rfl
    go_enter Try.func11, Try.ntmps11
    go_wp2
    go_ret
    exact ⟨_, rfl, .inl ⟨rfl, rfl, rfl⟩, Below.refl _ _⟩
  | some x =>
    have hml : (l.map u32V).length = l.length := by simp
    obtain ⟨L, hL⟩ : ∃ L, L = l.length := ⟨_, rfl⟩
    rw [hml, ← hL] at hr ⊢
    rw [← hL] at hl
    have HL := Lib.hid hL
    have heq : ∀ W : World, (binOp .eql 22 (.slice (some x) L cap) (.slice none 0 0)).run Try.prog W = .ok (.bool false) W := fun W => by kernel_rfl
    have hmk : ∀ W : World, (Instr.makeSlice 22 (.int .i64 0) (.int .i64 ((L : Int) + 1))).run Try.prog W = .ok (.slice (some ⟨W.heap.size, 0, none⟩) 0 (L + 1)) (W.alloc (.cells (zrow (L + 1)) 23)) := fun W => make_u322 0 (L + 1) (Nat.zero_le _) (by omega) W
    have hra := Lib.hid (hr.alloc (Nat.le_refl _) (.cells (zrow (L + 1)) 23))
    have HOE := Lib.hid (owns_spare w (L + 1) (by omega))
    obtain ⟨i0, hi0, hiz, hiz1, hizb⟩ := info_parts infoU32
    have hb1 : Below w.heap.size w (w.alloc (.cells (zrow (L + 1)) 23)) := (Below.refl _ _).alloc (Nat.le_refl _) _
    have HB1 := Lib.hid hb1
    clear hr hL hml h0 hle hb1
    go_enter Try.func11, Try.ntmps11
    go_upto_region 3 with (fail)
    go_wp2_with (first
      | (at_builtin; refine wpList_append_reads _ rfl (.tmp 8) (.tmp 9) 22 rfl w.heap.size 23 i0 (.int .u32 0) 4 Try.underlying22 hi0 hiz hiz1 hizb rfl (.slice (some ⟨w.heap.size, 0, none⟩) 0 (L + 1)) 0 [] rfl HOE.out w.heap.size (.slice (some x) L cap) (l.map u32V) rfl hra.out (u32_one l) (by rw [List.length_map, ← HL.out]; unfold maxLen; omega) (by rw [List.length_map, ← HL.out]; omega) (by simp) ?_; intro v1 w1 ho hg; rw [List.length_map, ← HL.out, Nat.zero_add, List.nil_append] at ho; have HO := Lib.hid ho; have HB2 := Lib.hid (HB1.out.trans (below_grown HOE.out hg w.heap.size (Nat.le_refl _) (by simp))); obtain ⟨va, vc, rfl, -⟩ := ho.at_; clear ho hg)
      | (at_builtin; refine wpList_push1 rfl (.tmp 10) (.tmp 11) 22 rfl w.heap.size 23 i0 (.int .u32 0) 4 Try.underlying22 hi0 hiz hiz1 hizb rfl _ _ _ rfl HO.out (.int .u32 77177) _ rfl rfl rfl (by unfold maxLen; omega) (by omega) HB2.out.size ?_; intro v2 w2 ho hlt hb; have HB3 := Lib.hid (hb w.heap.size w HB2.out (Nat.le_refl _)); have ho3 : w2.owns w.heap.size 23 1 v2 (L + 1) ((l ++ [77177]).map u32V) := (by rw [List.map_append]; exact ho); obtain ⟨g, c, rfl⟩ := ho3.succ; obtain ⟨-, hc1, -, hc2, -⟩ := ho3.facts; have HO3 := Lib.hid ho3; have i1 : (L : Int) ≤ (c : Int) := (by omega); have i2 : (0 : Int) ≤ (L : Int) := (by omega); have i3 : L ≤ c := (by omega); clear ho ho3 hb hlt))
    go_ret
    refine ⟨_, rfl, .inr ⟨⟨_, _, _, rfl⟩, g, c, by rw [← HL.out]; rfl, ?_⟩, HB3.out⟩
    rw [← HL.out]
    exact HO3.out
theorem Lend_any (l : List Nat) (v : Value) (hl : l.length ≤ 1000) (w : World) (hr : w.reads w.heap.size v (l.map u32V)) :
    Calls Try.prog 11 #[v] w fun e w' => ∃ own, e = .returned own ∧ Lent w' v own l ∧ Below w.heap.size w w' := by
  refine (Lend_own l v hl w hr).mono ?_
  rintro e w' ⟨own, h1, h2, h3⟩
  exact ⟨own, h1, h2.lent, h3⟩
end Go.Proofs.Ytnjblppapmflhaa

/- Walks: whether a lent list is as it was. -/
namespace Go.Proofs.Ytnjblppapmflhaa
set_option linter.all false
open Go.RowKit Go.Shelf Go.WideNum PN
set_option maxRecDepth 100000 in
set_option maxHeartbeats 4000000 in
theorem Kept_any (l : List Nat) (v own : Value) (hl : l.length ≤ 1000) (w : World) (hr : w.reads w.heap.size v (l.map u32V)) (h : Lent w v own l) :
    Calls Try.prog 17 #[own, v] w fun e w' => e = .returned (.bool true) ∧ ∃ n, w' = w.drewN n := by
  have hsame : Calls Try.prog 14 #[own, v] w (fun e w' => e = .returned (.bool true) ∧ ∃ n, w' = w.drewN n) := by
    have := samew_any own v l l _ _ w h.reads hr
    simpa using this
  have HS := Lib.hid hsame
  clear hsame
  rcases h with ⟨rfl, rfl, rfl⟩ | ⟨⟨x, m, cap, rfl⟩, g, c, rfl, h2⟩
  · have heq : ∀ W : World, (binOp .eql 22 (.slice none 0 0) (.slice none 0 0)).run Try.prog W = .ok (.bool true) W := fun W => by kernel_rfl
    go_enter Try.func17, Try.ntmps17
    go_wp2_with fail
    (with_reducible refine (HS.out).mono ?_)
    rintro e w1 ⟨rfl, n, rfl⟩
    go_wp2
    go_ret
    exact ⟨rfl, n, rfl⟩
  · obtain ⟨a2, c2, he, -, hc1, hc2, hs⟩ := h2
    obtain ⟨-, hcap⟩ : True ∧ c2 = c := ⟨trivial, by injection he with _ _ h; exact h.symm⟩
    subst hcap
    obtain ⟨bb, off, he2, hbl, hcell⟩ := hs l.length (u32V 77177) (by simp)
    have h3 : a2 = some ⟨g, 0, none⟩ := by injection he with h _ _; exact h.symm
    rw [h3] at he2
    obtain ⟨rfl, rfl⟩ : g = bb ∧ off = 0 := by injection he2 with h; injection h with h1 h2 h3; exact ⟨h1, h2.symm⟩
    have hm : m = l.length := by
      obtain ⟨a4, c4, he4, -⟩ := hr
      injection he4 with _ h _
      simpa using h
    subst hm
    obtain ⟨L, hL⟩ : ∃ L, L = l.length := ⟨_, rfl⟩
    rw [← hL] at hcell hl HS ⊢
    have hc3 : L + 1 ≤ c2 := by rw [hL]; simpa using hc1
    rw [Nat.zero_add] at hcell
    have hcell2 : w.cell? ⟨g, L, none⟩ = some (.int .u32 77177) := hcell
    have heq : ∀ W : World, (binOp .eql 22 (.slice (some x) L cap) (.slice none 0 0)).run Try.prog W = .ok (.bool false) W := fun W => by kernel_rfl
    have i1 : (L : Int) + 1 ≤ (c2 : Int) := by omega
    have i2 : (0 : Int) ≤ (L : Int) + 1 := by omega
    have i3 : (L : Int) < (L : Int) + 1 := by omega
    clear hr hs he he2 hcell hL hc1 h3
    go_enter Try.func17, Try.ntmps17
    go_wp2_with fail
    (with_reducible refine (HS.out).mono ?_)
    rintro e w1 ⟨rfl, n, rfl⟩
    go_wp2
    go_ret
    exact ⟨rfl, n, rfl⟩
end Go.Proofs.Ytnjblppapmflhaa

/- Walks: the reference's residues of an integer. -/
namespace Go.Proofs.Ytnjblppapmflhaa
set_option linter.all false
open Go.RowKit Go.Shelf Go.WideNum PN
/-- A system of the reference's, of which only the primes are known. -/
def RefPr (w : World) (b : Nat) (ps : List Nat) : Prop := ∃ pv u1 u2, w.heap[b]? = some (.cells #[pv, u1, u2] 64) ∧ w.reads w.heap.size pv (ps.map u32V)
theorem RefAt.pr {w : World} {b : Nat} {ps : List Nat} (h : RefAt w b ps) : RefPr w b ps := by obtain ⟨pv, h1, h2⟩ := h; exact ⟨pv, _, _, h1, h2⟩
theorem RefPr.below {w w' : World} {b : Nat} {ps : List Nat} (h : RefPr w b ps) (hb : Below w.heap.size w w') : RefPr w' b ps := by
  obtain ⟨pv, u1, u2, h1, h2⟩ := h
  exact ⟨pv, u1, u2, (hb.block _ (lt_of_heap h1)).trans h1, (h2.below hb).mono hb.size⟩
set_option maxRecDepth 100000 in
set_option maxHeartbeats 8000000 in
theorem refSplit_any (b : Nat) (ps : List Nat) (nx : Bool) (sx : ByteArray) (hsz : sx.size ≤ maxLen) (w : World) (hs : RefPr w b ps) (hsep : ∀ p ∈ ps, 0 < p ∧ p < 4294967296) (hlen : ps.length ≤ 1000) :
    Calls Try.prog 30 #[.pointer (some ⟨b, 0, none⟩), .agg #[.bool nx, .string sx]] w (RowE w (splitF ps nx sx).1 (splitF ps nx sx).2) := by
  obtain ⟨HPOST, hpost⟩ : ∃ R, R = RowE w (splitF ps nx sx).1 (splitF ps nx sx).2 := ⟨_, rfl⟩
  rw [← hpost]
  have HP := Lib.hid hpost
  obtain ⟨ok, hok⟩ : ∃ ok, ok = validB nx sx := ⟨_, rfl⟩
  have HV := Lib.hid (refValid_wide nx sx hsz ok hok)
  have HOK := Lib.hid hok
  obtain ⟨wb, hwb⟩ : ∃ W, W = w.alloc (.cells #[.bool nx, .string sx] 38) := ⟨_, rfl⟩
  have hbb : Below w.heap.size w wb := by rw [hwb]; exact (Below.refl _ _).alloc (Nat.le_refl _) _
  have hgb : wb.heap[w.heap.size]? = some (.cells #[.bool nx, .string sx] 38) := by rw [hwb]; exact heap_alloc_new w _
  have HBB := Lib.hid hbb
  have HGB := Lib.hid hgb
  have HSB := Lib.hid (hs.below hbb)
  clear hpost hok hbb hgb hs
  go_enter Try.func30, Try.ntmps30
  go_upto_region 1 with (fail)
  rw [← hwb]
  obtain ⟨x0, x1, -⟩ := wide_cells HGB.out
  clear hwb
  go_wp2_with fail
  (with_reducible refine (HV.out _).mono ?_)
  rintro e w1 ⟨rfl, hb1⟩
  have B1 := Lib.hid (below_via HBB.out hb1)
  have X1 := Lib.hid (wide_hold (w := wb) HGB.out hb1)
  have S1 := Lib.hid (HSB.out.below hb1)
  clear x0 x1 hb1 HGB HSB HBB HV
  cases ok with
  | false =>
    go_wp2_with fail
    rw [HP.out]
    have : splitF ps nx sx = ([], 2) := by unfold splitF; rw [← HOK.out]; rfl
    rw [this]
    exact RowE.nil 2 B1.out
  | true =>
    obtain ⟨hzr, hzn, hzt⟩ := z_of_valid HOK.out.symm
    have hsp : splitF ps nx sx = (resL ps (zV nx sx), 0) := by unfold splitF; rw [← HOK.out]; rfl
    have HSPF := Lib.hid hsp
    obtain ⟨z, hz⟩ : ∃ z, z = zV nx sx := ⟨_, rfl⟩
    rw [← hz] at hzr hzn hzt
    have HM : Hid (∀ (p : Nat) (W : World), p ∈ ps → Calls Try.prog 62 #[.agg #[.bool nx, .string sx], .int .u32 (p : Int)] W fun e w' => e = .returned (.tuple #[.int .u32 (((z % (p : Int)).toNat : Nat) : Int), .int .i64 0]) ∧ Below W.heap.size W w') := fun p W hp => by
      obtain ⟨h1, h2⟩ := hsep p hp
      have h3 := Int.emod_nonneg z (show (p : Int) ≠ 0 by omega)
      have := refMod_z z p (z % (p : Int)).toNat hzr h1 h2 (by omega) W
      rwa [hzn, hzt] at this
    have HZ := Lib.hid hz
    have HLEN := Lib.hid hlen
    obtain ⟨lv, u1, u2, h1, h2⟩ := S1.out
    have hl2 := h2.le_map
    obtain ⟨pa, pc, rfl, hpc, hpm, hps⟩ := reads_u32 h2
    have HPS := Lib.hid hps
    have HL1 := Lib.hid h1
    have HR1 := Lib.hid h2
    obtain ⟨n, hn⟩ : ∃ n, n = ps.length := ⟨_, rfl⟩
    rw [← hn] at hpc HL1 hl2 HR1
    have HN := Lib.hid hn
    obtain ⟨i0, hi0, hiz, hiz1, hizb⟩ := info_parts infoU32
    have HI0 := Lib.hid hi0
    have hn1 : n ≤ 1000 := by omega
    clear h1 h2 hps hn hsep hzr hzn hzt hz hsp hlen hi0
    go_wp2
    go_loopw [6, 7] (fun sv iv wx => ∃ k : Nat, k ≤ n ∧ iv = .int .i64 (k : Int) ∧ Hid (wx.owns w1.heap.size 23 1 sv k (((resL ps z).take k).map u32V)) ∧ Hid (Below w1.heap.size w1 wx)) (fun _ iv _ => n - (intOf iv).toNat)
    case atStart => exact ⟨0, Nat.zero_le _, rfl, World.owns_nil _ _ _ _, Below.refl _ _⟩
    case round =>
      rename_i sv
      obtain ⟨k, hk, rfl, HO, HB⟩ := hrel
      obtain ⟨wo, rfl⟩ : ∃ x, x = wr := ⟨_, rfl⟩
      obtain ⟨va, vc, rfl, -⟩ := HO.out.at_
      obtain ⟨c0, -⟩ := three_ref ((HB.out.block _ (lt_of_heap HL1.out)).trans HL1.out)
      by_cases hlt : k < n
      · obtain ⟨p, hp⟩ : ∃ p, ps[k]? = some p := ⟨ps[k]'(by have := HN.out; omega), List.getElem?_eq_getElem _⟩
        obtain ⟨b1, o1, rfl, hbl, hcl⟩ := HPS.out k p hp
        obtain ⟨r, hr⟩ : ∃ r, r = (z % (p : Int)).toNat := ⟨_, rfl⟩
        have HMP : Hid (∀ W : World, Calls Try.prog 62 #[.agg #[.bool nx, .string sx], .int .u32 (p : Int)] W fun e w' => e = .returned (.tuple #[.int .u32 (r : Int), .int .i64 0]) ∧ Below W.heap.size W w') := fun W => by rw [hr]; exact HM.out p W (List.mem_of_getElem? hp)
        have hres : Hid ((resL ps z).take (k + 1) = (resL ps z).take k ++ [r]) := by
          show _ = _
          rw [hr]
          rw [List.take_add_one]
          congr 1
          simp [resL, hp]
        have d0 : wo.cell? ⟨b1, o1 + k, none⟩ = some (.int .u32 (p : Int)) := (HB.out.cell (p := ⟨b1, o1 + k, none⟩) hbl).trans hcl
        obtain ⟨x0, x1, -⟩ := wide_cells (wide_hold (w := w1) X1.out HB.out)
        have hin : ∀ W, Below w1.heap.size w1 W → W.cell? ⟨w.heap.size, 0, none⟩ = some (.bool nx) ∧ W.cell? ⟨w.heap.size, 1, none⟩ = some (.string sx) ∧ W.cell? ⟨b, 0, none⟩ = some (.slice (some ⟨b1, o1, none⟩) n pc) ∧ W.cell? ⟨b1, o1 + k, none⟩ = some (.int .u32 (p : Int)) := fun W h => by
          obtain ⟨y0, y1, -⟩ := wide_cells (wide_hold (w := w1) X1.out h)
          obtain ⟨y2, -⟩ := three_ref ((h.block _ (lt_of_heap HL1.out)).trans HL1.out)
          exact ⟨y0, y1, y2, (h.cell (p := ⟨b1, o1 + k, none⟩) hbl).trans hcl⟩
        have HIN := Lib.hid hin
        have i1 : (k : Int) < (n : Int) := by omega
        have i2 : (0 : Int) ≤ (k : Int) := by omega
        clear hin hcl hp hr
        go_upto_region 7 with (fail)
        go_region_held3 (fun w' => w'.cell? ⟨w.heap.size, 0, none⟩ = some (.bool nx) ∧ w'.cell? ⟨w.heap.size, 1, none⟩ = some (.string sx) ∧ w'.cell? ⟨b, 0, none⟩ = some (.slice (some ⟨b1, o1, none⟩) n pc) ∧ w'.cell? ⟨b1, o1 + k, none⟩ = some (.int .u32 (p : Int)))
          (first | exact ⟨x0, x1, c0, d0⟩ | (refine ⟨?_, ?_, ?_, ?_⟩ <;> assumption))
          (first
            | (go_simp; go_at_call 62; refine (HMP.out _).mono ?_; rintro e w4 ⟨rfl, hb4⟩; have HB4 := Lib.hid (below_viaD HB.out hb4); have HO4 := Lib.hid (HO.out.below (below_viaD (Below.refl _ _) hb4)); obtain ⟨x0, x1, c0, d0⟩ := HIN.out w4 HB4.out; clear hb4))
        clear x0 x1 c0 d0
        go_wp2_with (at_builtin; refine wpList_push1 rfl (.tmp 34) (.tmp 36) 22 rfl w1.heap.size 23 i0 (.int .u32 0) 4 Try.underlying22 HI0.out hiz hiz1 hizb rfl (.slice va k vc) k _ rfl HO4.out (.int .u32 (r : Int)) _ rfl rfl rfl (by unfold maxLen; omega) (by omega) HB4.out.size ?_; intro v7 w7 ho7 hlt7 hb7; have HB7 := Lib.hid (hb7 _ _ HB4.out (Nat.le_refl _)); have HO7 := Lib.hid ho7; clear ho7 hlt7 hb7)
        go_roundw
        case rel => exact ⟨k + 1, by omega, by go_num, by show World.owns _ _ _ _ _ _ _; rw [hres.out, List.map_append]; exact HO7.out, HB7.out⟩
        case measure => simp [intOf]; omega
      · obtain rfl : k = n := by omega
        have hrl : (resL ps z).length = k := by rw [HN.out]; simp [resL]
        have ho := HO.out
        rw [← hrl, List.take_length, hrl] at ho
        have HO2 := Lib.hid ho
        have HRL := Lib.hid hrl
        clear ho HO hrl
        go_wp2
        rw [HP.out, HSPF.out, ← HZ.out]
        refine ⟨_, rfl, ?_, below_via B1.out HB.out⟩
        rw [HRL.out]
        exact HO2.out.mono B1.out.size
end Go.Proofs.Ytnjblppapmflhaa

/- Walks: the reference's conversion (given what its Join does). -/
namespace Go.Proofs.Ytnjblppapmflhaa
set_option linter.all false
open Go.RowKit Go.Shelf Go.WideNum PN
theorem split_z {us : List Nat} {z : Int} (h : InR z) : splitF us (zN z) (zT z) = (resL us z, 0) := by
  unfold splitF
  rw [(z_valid h).1, if_pos rfl, (z_valid h).2]
set_option maxRecDepth 100000 in
set_option maxHeartbeats 8000000 in
theorem refConvert_of (b c : Nat) (ps us rs : List Nat) (rv : Value) (w : World) (hsys : SysP ps) (hu : RefAt w c us) (husys : SysP us) (hr : ∃ a n c, rv = .slice a n c) (ok : Bool)
    (HJ : Calls Try.prog 31 #[.pointer (some ⟨b, 0, none⟩), rv] w (FormE w (if ok then joinZ ps rs else 0) (if ok then 0 else 2))) :
    Calls Try.prog 33 #[.pointer (some ⟨b, 0, none⟩), rv, .pointer (some ⟨c, 0, none⟩)] w (RowE w (if ok then resL us (joinZ ps rs) else []) (if ok then 0 else 2)) := by
  obtain ⟨ra, rn, rc, rfl⟩ := hr
  obtain ⟨HPOST, hpost⟩ : ∃ R, R = RowE w (if ok then resL us (joinZ ps rs) else []) (if ok then 0 else 2) := ⟨_, rfl⟩
  rw [← hpost]
  have HP := Lib.hid hpost
  have HJN := Lib.hid HJ
  have HU := Lib.hid hu
  clear hpost HJ hu
  cases ok with
  | false =>
    go_enter Try.func33, Try.ntmps33
    go_wp2_with fail
    (with_reducible refine (HJN.out).mono ?_)
    rintro e w1 ⟨rfl, hb1⟩
    have hb2 := below_via hb1 ((Below.refl w1.heap.size w1).alloc (Nat.le_refl _) (.cells #[.bool (zN 0), .string (zT 0)] 38))
    have HB2 := Lib.hid hb2
    clear hb1 hb2
    go_wp2
    rw [HP.out]
    exact RowE.nil 2 HB2.out
  | true =>
    have hin : InR (joinZ ps rs) := inR_joinZ hsys.sep hsys.2.1
    obtain ⟨J, hJ⟩ : ∃ J, J = joinZ ps rs := ⟨_, rfl⟩
    rw [← hJ] at hin
    obtain ⟨jb, hjb⟩ : ∃ z, z = zN J := ⟨_, rfl⟩
    obtain ⟨jt, hjt⟩ : ∃ z, z = zT J := ⟨_, rfl⟩
    have HJ2 : Hid (Calls Try.prog 31 #[.pointer (some ⟨b, 0, none⟩), .slice ra rn rc] w fun e w' => e = .returned (.tuple #[.agg #[.bool jb, .string jt], .int .i64 0]) ∧ Below w.heap.size w w') := by
      have := HJN.out
      rw [if_pos rfl, if_pos rfl, ← hJ] at this
      rw [hjb, hjt]; exact this
    have HSP : Hid (∀ W, RefAt W c us → Calls Try.prog 30 #[.pointer (some ⟨c, 0, none⟩), .agg #[.bool jb, .string jt]] W (RowE W (resL us J) 0)) := fun W h => by
      have := refSplit_any c us jb jt (by rw [hjt]; exact z_size hin) W h.pr (fun p hp => ⟨(husys.sep.mem hp).1.pos, by have := (husys.sep.mem hp).2.2; omega⟩) (by have := husys.2.1; omega)
      rwa [hjb, hjt, split_z hin, ← hjb, ← hjt] at this
    have HPJ : Hid (HPOST = RowE w (resL us J) 0) := by show _ = _; rw [HP.out, if_pos rfl, if_pos rfl, hJ]
    clear hJ hjb hjt hin HJN HP
    go_enter Try.func33, Try.ntmps33
    go_wp2_with fail
    (with_reducible refine (HJ2.out).mono ?_)
    rintro e w1 ⟨rfl, hb1⟩
    go_upto_region 2 with (fail)
    have hab : Below w1.heap.size w1 (w1.alloc (.cells #[.bool jb, .string jt] 38)) := (Below.refl _ _).alloc (Nat.le_refl _) _
    have hg : (w1.alloc (.cells #[.bool jb, .string jt] 38)).heap[w1.heap.size]? = some (.cells #[.bool jb, .string jt] 38) := heap_alloc_new w1 _
    generalize w1.alloc (.cells #[.bool jb, .string jt] 38) = w2 at hab hg ⊢
    have HB2 := Lib.hid (below_via hb1 hab)
    obtain ⟨c0, c1, -⟩ := wide_cells hg
    clear hab hg hb1
    go_wp2_with fail
    (with_reducible refine (HSP.out _ (HU.out.below HB2.out)).mono ?_)
    rintro e w3 ⟨v, rfl, ho, hb3⟩
    have HO := Lib.hid ho
    have HB3 := Lib.hid (below_via HB2.out hb3)
    obtain ⟨va, vc, rfl, -⟩ := ho.at_
    clear ho hb3 c0 c1
    go_wp2
    rw [HPJ.out]
    exact ⟨_, rfl, HO.out.mono HB2.out.size, HB3.out⟩
end Go.Proofs.Ytnjblppapmflhaa

/- Walks: the reference's integer of a row. -/
namespace Go.Proofs.Ytnjblppapmflhaa
set_option linter.all false
open Go.RowKit Go.Shelf Go.WideNum PN
/-- The integer and the product under way, each in its block. -/
structure JS (w W : World) (bx bq : Nat) (x q : Int) : Prop where
  bel : Below w.heap.size w W
  h0 : W.heap[w.heap.size]? = some (.cells #[.bool false, .string ⟨#[]⟩] 38)
  hx : W.heap[bx]? = some (.cells #[.bool (zN x), .string (zT x)] 38)
  hq : W.heap[bq]? = some (.cells #[.bool (zN q), .string (zT q)] 38)
theorem JS.below {w W W' : World} {bx bq : Nat} {x q : Int} (h : JS w W bx bq x q) (hb : Below W.heap.size W W') : JS w W' bx bq x q :=
  ⟨below_via h.bel hb, hold_heap h.h0 hb, hold_heap h.hx hb, hold_heap h.hq hb⟩
theorem JS.setX {w W : World} {bx bq : Nat} {x q : Int} (h : JS w W bx bq x q) (h1 : w.heap.size < bx) (h2 : bx < bq) (y : Int) : JS w ((W.setCell ⟨bx, 0, none⟩ (.bool (zN y))).setCell ⟨bx, 1, none⟩ (.string (zT y))) bx bq y q :=
  ⟨below_set2 h.bel (by omega) _ _, (wide_other (by omega) _ _).trans h.h0, wide_set h.hx _ _, (wide_other (by omega) _ _).trans h.hq⟩
theorem JS.setQ {w W : World} {bx bq : Nat} {x q : Int} (h : JS w W bx bq x q) (h1 : w.heap.size < bx) (h2 : bx < bq) (y : Int) : JS w ((W.setCell ⟨bq, 0, none⟩ (.bool (zN y))).setCell ⟨bq, 1, none⟩ (.string (zT y))) bx bq x y :=
  ⟨below_set2 h.bel (by omega) _ _, (wide_other (by omega) _ _).trans h.h0, (wide_other (by omega) _ _).trans h.hx, wide_set h.hq _ _⟩
theorem JS.cells {w W : World} {bx bq : Nat} {x q : Int} (h : JS w W bx bq x q) : W.cell? ⟨bx, 0, none⟩ = some (.bool (zN x)) ∧ W.cell? ⟨bx, 1, none⟩ = some (.string (zT x)) ∧ W.cell? ⟨bq, 0, none⟩ = some (.bool (zN q)) ∧ W.cell? ⟨bq, 1, none⟩ = some (.string (zT q)) :=
  ⟨(wide_cells h.hx).1, (wide_cells h.hx).2.1, (wide_cells h.hq).1, (wide_cells h.hq).2.1⟩
theorem inR_le25 {z : Int} (h : z.natAbs ≤ 4294967296 ^ 25) : InR z := inR_of (k := 26) (Nat.lt_of_le_of_lt h (Nat.pow_lt_pow_right (by omega) (by omega))) (by omega)
theorem JS.start {w W : World} (hb : Below w.heap.size w W) (h0 : W.heap[w.heap.size]? = some (.cells #[.bool false, .string ⟨#[]⟩] 38)) (q : Int) :
    JS w ((W.alloc (.cells #[.bool false, .string ⟨#[]⟩] 38)).alloc (.cells #[.bool (zN q), .string (zT q)] 38)) W.heap.size (W.heap.size + 1) 0 q := by
  have a1 : (W.alloc (.cells #[.bool false, .string ⟨#[]⟩] 38)).heap[W.heap.size]? = some (.cells #[.bool false, .string ⟨#[]⟩] 38) := heap_alloc_new W _
  have hs := World.size_alloc W (.cells #[.bool false, .string ⟨#[]⟩] 38)
  have b1 : Below W.heap.size W (W.alloc (.cells #[.bool false, .string ⟨#[]⟩] 38)) := (Below.refl _ _).alloc (Nat.le_refl _) _
  have a3 := hold_heap h0 b1
  have b3 := below_via hb b1
  generalize W.alloc (.cells #[.bool false, .string ⟨#[]⟩] 38) = V at a1 hs b3 a3 ⊢
  rw [← hs]
  have b2 : Below V.heap.size V (V.alloc (.cells #[.bool (zN q), .string (zT q)] 38)) := (Below.refl _ _).alloc (Nat.le_refl _) _
  exact ⟨below_via b3 b2, hold_heap a3 b2, by rw [zN_zero, zT_zero]; exact hold_heap a1 b2, heap_alloc_new V _⟩
set_option maxRecDepth 100000 in
set_option maxHeartbeats 16000000 in
theorem refJoin_any (b : Nat) (ps rs : List Nat) (rv : Value) (w : World) (hs : RefAt w b ps) (hsys : SysP ps) (hr : w.reads w.heap.size rv (rs.map u32V)) (ok : Bool) (hok : ok = true ↔ RowP ps rs) :
    Calls Try.prog 31 #[.pointer (some ⟨b, 0, none⟩), rv] w (FormE w (if ok then joinZ ps rs else 0) (if ok then 0 else 2)) := by
  obtain ⟨HPOST, hpost⟩ : ∃ R, R = FormE w (if ok then joinZ ps rs else 0) (if ok then 0 else 2) := ⟨_, rfl⟩
  rw [← hpost]
  have HP := Lib.hid hpost
  have hab : Below w.heap.size w (w.alloc (.cells #[.bool false, .string ⟨#[]⟩] 38)) := (Below.refl _ _).alloc (Nat.le_refl _) _
  have hg : (w.alloc (.cells #[.bool false, .string ⟨#[]⟩] 38)).heap[w.heap.size]? = some (.cells #[.bool false, .string ⟨#[]⟩] 38) := heap_alloc_new w _
  have HROW := Lib.hid (refRow_any b ps rs rv _ (hs.below hab) ((hr.below hab).mono hab.size) ok hok)
  have HS := Lib.hid hs
  have HOK := Lib.hid hok
  have HR := Lib.hid hr
  have hl1 := hr.le_map
  obtain ⟨ra, rc, rfl, hrc, hrm, hrs⟩ := reads_u32 hr
  have HRS := Lib.hid hrs
  clear hpost hs hr hok hrs
  go_enter Try.func31, Try.ntmps31
  go_upto_region 1 with (fail)
  generalize w.alloc (.cells #[.bool false, .string ⟨#[]⟩] 38) = wa at hab hg HROW ⊢
  have HG := Lib.hid hg
  have HAB := Lib.hid hab
  clear hab hg
  go_wp2_with fail
  (with_reducible refine (HROW.out).mono ?_)
  rintro e w1 ⟨rfl, n0, rfl⟩
  cases ok with
  | false =>
    obtain ⟨x0, x1, xf⟩ := wide_cells HG.out
    go_wp2
    have m2 := wide_set HG.out false ⟨#[]⟩
    have hb9 := below_set2 (p := w.heap.size) HAB.out (Nat.le_refl _) false ⟨#[]⟩
    obtain ⟨d20, d21, -⟩ := wide_cells m2
    clear m2 x0 x1 xf d20 d21
    obtain ⟨d20, d21, -⟩ := wide_cells (W := ((wa.setCell ⟨w.heap.size, 0, none⟩ (.bool false)).setCell ⟨w.heap.size, 1, none⟩ (.string ⟨#[]⟩)).drewN n0) (wide_set HG.out false ⟨#[]⟩)
    replace hb9 : Below w.heap.size w (((wa.setCell ⟨w.heap.size, 0, none⟩ (.bool false)).setCell ⟨w.heap.size, 1, none⟩ (.string ⟨#[]⟩)).drewN n0) := below_drewN hb9 n0
    generalize ((wa.setCell ⟨w.heap.size, 0, none⟩ (.bool false)).setCell ⟨w.heap.size, 1, none⟩ (.string ⟨#[]⟩)).drewN n0 = W9 at d20 d21 hb9 ⊢
    rw [HP.out]
    exact bodyPost_ret (v := .tuple #[.agg #[.bool false, .string ⟨#[]⟩], .int .i64 2]) (by simp [results, Try.results31, go_sem, d20, d21]) rfl ⟨by simp only [Bool.false_eq_true, if_false, zN_zero, zT_zero], hb9⟩
  | true =>
    have hrow := HOK.out.1 rfl
    have HROWP := Lib.hid hrow
    have hsep := hsys.sep
    have HSEP := Lib.hid hsep
    have HBD : Hid (∀ k, prodL (ps.take k) ≤ 4294967296 ^ 25) := fun k => prodL_le25 (hsep.take k) (by have := hsys.2.1; rw [List.length_take]; omega)
    have hlen : rs.length = ps.length := hrow.1
    obtain ⟨n, hn⟩ : ∃ n, n = rs.length := ⟨_, rfl⟩
    rw [← hn] at hrc hl1 HROW HR ⊢
    have HN := Lib.hid hn
    have HNP : Hid (n = ps.length) := hn.trans hlen
    have hn25 : n ≤ 25 := by have := hsys.2.1; omega
    obtain ⟨lv, hl2, hl3⟩ := HS.out
    obtain ⟨pa, pc, rfl, hpc, -, hps⟩ := reads_u32 hl3
    have hpm := hl3.le_map
    rw [← HNP.out] at hl2 hpc hpm
    have HL1 := Lib.hid hl2
    have HPS := Lib.hid hps
    clear hn hlen hrow hsep hl2 hl3 hps
    have HOF : Hid (∀ W : World, Calls Try.prog 24 #[.int .i64 1] W fun e w' => e = .returned (.agg #[.bool (zN 1), .string (zT 1)]) ∧ Below W.heap.size W w') := fun W => refOf_z 1 (by omega) (by omega) W
    obtain ⟨ob, hob⟩ : ∃ z, z = zN 1 := ⟨_, rfl⟩
    obtain ⟨ot, hot⟩ : ∃ z, z = zT 1 := ⟨_, rfl⟩
    rw [← hob, ← hot] at HOF
    go_wp2_with fail
    (with_reducible refine (HOF.out _).mono ?_)
    rintro e w1 ⟨rfl, hb1⟩
    have hb1' : Below w.heap.size w w1 := below_via (b := wa.drewN n0) (below_drewN HAB.out n0) hb1
    have hg1 := hold_heap (w := wa.drewN n0) HG.out hb1
    have hjs := JS.start hb1' hg1 1
    rw [← hob, ← hot] at hjs
    have HJS := Lib.hid hjs
    have hw1 : w.heap.size < w1.heap.size := lt_of_heap hg1
    clear hjs hob hot hb1 hb1' hg1 HOF HG HAB HROW
    go_upto_region 4 with (fail)
    obtain ⟨bx, hbx⟩ : ∃ z, z = w1.heap.size := ⟨_, rfl⟩
    obtain ⟨bq, hbq⟩ : ∃ z, z = bx + 1 := ⟨_, rfl⟩
    rw [← hbx, ← hbq] at HJS ⊢
    rw [← hbx] at hw1
    have hw2 : bx < bq := by omega
    generalize (w1.alloc (.cells #[.bool false, .string ⟨#[]⟩] 38)).alloc (.cells #[.bool ob, .string ot] 38) = w2 at HJS ⊢
    clear hbx hbq
    have hcrt0 : IsCrt (ps.take 0) (rs.take 0) 0 := ⟨by simp [prodL], fun k q s hq => by simp at hq⟩
    have HC0 := Lib.hid hcrt0
    clear hcrt0
    go_wp2_with fail
    go_loopw [8] (fun iv wx => ∃ k X Q : Nat, k ≤ n ∧ iv = .int .i64 (k : Int) ∧ Hid (JS w wx bx bq (X : Nat) (Q : Nat)) ∧ Hid (Q = prodL (ps.take k) ∧ IsCrt (ps.take k) (rs.take k) X)) (fun iv _ => n - (intOf iv).toNat)
    case atStart => exact ⟨0, 0, 1, Nat.zero_le _, rfl, HJS.out, rfl, HC0.out⟩
    case round =>
      obtain ⟨k, X, Q, hk, rfl, HJ, HC⟩ := hrel
      obtain ⟨wo, rfl⟩ : ∃ x, x = wr := ⟨_, rfl⟩
      obtain ⟨hQ, hX⟩ := HC.out
      have hXQ : X < Q := by rw [hQ]; exact hX.1
      have hQb : Q ≤ 4294967296 ^ 25 := by rw [hQ]; exact HBD.out k
      have rX : InR (X : Int) := inR_le25 (by omega)
      have rQ : InR (Q : Int) := inR_le25 (by omega)
      by_cases hlt : k < n
      · obtain ⟨p, hp⟩ : ∃ p, ps[k]? = some p := ⟨ps[k]'(by have := HNP.out; omega), List.getElem?_eq_getElem _⟩
        obtain ⟨r, hr⟩ : ∃ r, rs[k]? = some r := ⟨rs[k]'(by have := HN.out; omega), List.getElem?_eq_getElem _⟩
        obtain ⟨b1, o1, rfl, hbl, hcl⟩ := HPS.out k p hp
        obtain ⟨b2, o2, rfl, hrl, hrcl⟩ := HRS.out k r hr
        obtain ⟨p1, p2, p3, p4⟩ := HSEP.out k p hp
        have p5 := p1.1
        have hrp : r < p := HROWP.out.2 k p r hp hr
        obtain ⟨hg, hst⟩ := ref_step HSEP.out HROWP.out hp hr hX
        rw [← hQ] at hg hst
        obtain ⟨h, hh⟩ : ∃ z, z = X % p := ⟨_, rfl⟩
        obtain ⟨s, hs⟩ : ∃ z, z = Q % p := ⟨_, rfl⟩
        have hhl : h < p := by rw [hh]; exact Nat.mod_lt _ (by omega)
        have hsl : s < p := by rw [hs]; exact Nat.mod_lt _ (by omega)
        rw [← hs] at hg hst
        rw [← hh] at hst
        obtain ⟨i1, i2, -⟩ := invN_spec (show 2 ≤ p by omega) (by omega) hsl hg
        obtain ⟨v, hv⟩ : ∃ z, z = invN s p := ⟨_, rfl⟩
        rw [← hv] at i1 i2 hst
        obtain ⟨d, hd⟩ : ∃ z, z = (r + p - h) % p := ⟨_, rfl⟩
        have hdl : d < p := by rw [hd]; exact Nat.mod_lt _ (by omega)
        rw [← hd] at hst
        obtain ⟨m, hm⟩ : ∃ z, z = d * v % p := ⟨_, rfl⟩
        have hml : m < p := by rw [hm]; exact Nat.mod_lt _ (by omega)
        rw [← hm] at hst
        obtain ⟨M, hM⟩ : ∃ z, z = Q * m := ⟨_, rfl⟩
        obtain ⟨Y, hY⟩ : ∃ z, z = X + M := ⟨_, rfl⟩
        obtain ⟨R, hR⟩ : ∃ z, z = Q * p := ⟨_, rfl⟩
        rw [← hM, ← hY] at hst
        have hRp : R = prodL (ps.take (k + 1)) := by rw [take_succ' hp, prodL_snoc, ← hQ, hR]
        have hRle : R ≤ 4294967296 ^ 25 := by rw [hRp]; exact HBD.out (k + 1)
        have hYR : Y < R := by rw [hRp]; exact hst.1
        have HC2 := Lib.hid (And.intro hRp hst)
        have rY : InR (Y : Int) := inR_le25 (by omega)
        have rM : InR (M : Int) := inR_le25 (by omega)
        have rR : InR (R : Int) := inR_le25 (by omega)
        have rp : InR (p : Int) := inR_small (by omega)
        have rm : InR (m : Int) := inR_small (by omega)
        have HMX : Hid (∀ W : World, Calls Try.prog 62 #[.agg #[.bool (zN (X : Int)), .string (zT (X : Int))], .int .u32 (p : Int)] W fun e w' => e = .returned (.tuple #[.int .u32 (h : Int), .int .i64 0]) ∧ Below W.heap.size W w') := fun W => refMod_z X p h rX (by omega) (by omega) (by rw [hh]; simp) W
        have HMQ : Hid (∀ W : World, Calls Try.prog 62 #[.agg #[.bool (zN (Q : Int)), .string (zT (Q : Int))], .int .u32 (p : Int)] W fun e w' => e = .returned (.tuple #[.int .u32 (s : Int), .int .i64 0]) ∧ Below W.heap.size W w') := fun W => refMod_z Q p s rQ (by omega) (by omega) (by rw [hs]; simp) W
        have HIN : Hid (∀ W : World, Calls Try.prog 47 #[.int .u32 (s : Int), .int .u32 (p : Int)] W (U32Ok v W)) := fun W => Inverse01_in s p v hsl (by omega) p3 i1 i2 W
        have HSU : Hid (∀ W : World, Calls Try.prog 63 #[.int .u32 (r : Int), .int .u32 (h : Int), .int .u32 (p : Int)] W (U32Ok d W)) := fun W => by rw [hd]; exact Sub01_in r h p hrp hhl (by omega) p3 W
        have HMU : Hid (∀ W : World, Calls Try.prog 48 #[.int .u32 (d : Int), .int .u32 (v : Int), .int .u32 (p : Int)] W (U32Ok m W)) := fun W => by rw [hm]; exact Mul01_in d v p hdl i1 (by omega) p3 W
        have HOM : Hid (∀ W : World, Calls Try.prog 24 #[.int .i64 (m : Int)] W fun e w' => e = .returned (.agg #[.bool (zN (m : Int)), .string (zT (m : Int))]) ∧ Below W.heap.size W w') := fun W => refOf_z m (by omega) (by omega) W
        have HOP : Hid (∀ W : World, Calls Try.prog 24 #[.int .i64 (p : Int)] W fun e w' => e = .returned (.agg #[.bool (zN (p : Int)), .string (zT (p : Int))]) ∧ Below W.heap.size W w') := fun W => refOf_z p (by omega) (by omega) W
        have HQM : Hid (∀ W : World, Calls Try.prog 28 #[.agg #[.bool (zN (Q : Int)), .string (zT (Q : Int))], .agg #[.bool (zN (m : Int)), .string (zT (m : Int))]] W (WideOk M W)) := fun W => by
          have e : (Q : Int) * (m : Int) = (M : Int) := by rw [hM]; simp
          have := refMul_z Q m rQ rm (by rw [e]; exact rM) W
          rwa [e] at this
        have HQP : Hid (∀ W : World, Calls Try.prog 28 #[.agg #[.bool (zN (Q : Int)), .string (zT (Q : Int))], .agg #[.bool (zN (p : Int)), .string (zT (p : Int))]] W (WideOk R W)) := fun W => by
          have e : (Q : Int) * (p : Int) = (R : Int) := by rw [hR]; simp
          have := refMul_z Q p rQ rp (by rw [e]; exact rR) W
          rwa [e] at this
        have HAD : Hid (∀ W : World, Calls Try.prog 23 #[.agg #[.bool (zN (X : Int)), .string (zT (X : Int))], .agg #[.bool (zN (M : Int)), .string (zT (M : Int))]] W (WideOk Y W)) := fun W => by
          have e : (X : Int) + (M : Int) = (Y : Int) := by rw [hY]; simp
          have := refAdd_z X M rX rM (by rw [e]; exact rY) W
          rwa [e] at this
        have HPC : Hid (∀ W, Below w.heap.size w W → W.cell? ⟨b, 0, none⟩ = some (.slice (some ⟨b1, o1, none⟩) n pc) ∧ W.cell? ⟨b1, o1 + k, none⟩ = some (.int .u32 (p : Int)) ∧ W.cell? ⟨b2, o2 + k, none⟩ = some (.int .u32 (r : Int))) := fun W hb => by
          obtain ⟨y2, -⟩ := three_ref ((hb.block _ (lt_of_heap HL1.out)).trans HL1.out)
          exact ⟨y2, (hb.cell (p := ⟨b1, o1 + k, none⟩) hbl).trans hcl, (hb.cell (p := ⟨b2, o2 + k, none⟩) hrl).trans hrcl⟩
        have w64m : IntKind.i64.wrap (m : Int) = (m : Int) := IntWalk.i64_in _ (by omega)
        have w64p : IntKind.i64.wrap (p : Int) = (p : Int) := IntWalk.i64_in _ (by omega)
        have j1 : (k : Int) < (n : Int) := by omega
        have j2 : (0 : Int) ≤ (k : Int) := by omega
        obtain ⟨xb, hxb⟩ : ∃ z, z = zN (X : Int) := ⟨_, rfl⟩
        obtain ⟨xt, hxt⟩ : ∃ z, z = zT (X : Int) := ⟨_, rfl⟩
        obtain ⟨qb, hqb⟩ : ∃ z, z = zN (Q : Int) := ⟨_, rfl⟩
        obtain ⟨qt, hqt⟩ : ∃ z, z = zT (Q : Int) := ⟨_, rfl⟩
        obtain ⟨mb, hmb⟩ : ∃ z, z = zN (m : Int) := ⟨_, rfl⟩
        obtain ⟨mt, hmt⟩ : ∃ z, z = zT (m : Int) := ⟨_, rfl⟩
        obtain ⟨pb, hpb⟩ : ∃ z, z = zN (p : Int) := ⟨_, rfl⟩
        obtain ⟨pt, hpt⟩ : ∃ z, z = zT (p : Int) := ⟨_, rfl⟩
        obtain ⟨Mb, hMb⟩ : ∃ z, z = zN (M : Int) := ⟨_, rfl⟩
        obtain ⟨Mt, hMt⟩ : ∃ z, z = zT (M : Int) := ⟨_, rfl⟩
        obtain ⟨yb, hyb⟩ : ∃ z, z = zN (Y : Int) := ⟨_, rfl⟩
        obtain ⟨yt, hyt⟩ : ∃ z, z = zT (Y : Int) := ⟨_, rfl⟩
        obtain ⟨Rb, hRb⟩ : ∃ z, z = zN (R : Int) := ⟨_, rfl⟩
        obtain ⟨Rt, hRt⟩ : ∃ z, z = zT (R : Int) := ⟨_, rfl⟩
        unfold WideOk at HQM HQP HAD
        rw [← hxb, ← hxt] at HMX HAD
        rw [← hqb, ← hqt] at HMQ HQM HQP
        rw [← hmb, ← hmt] at HOM HQM
        rw [← hpb, ← hpt] at HOP HQP
        rw [← hMb, ← hMt] at HQM HAD
        rw [← hyb, ← hyt] at HAD
        rw [← hRb, ← hRt] at HQP
        have HXB := Lib.hid hxb
        have HXT := Lib.hid hxt
        have HQB := Lib.hid hqb
        have HQT := Lib.hid hqt
        have HYB := Lib.hid hyb
        have HYT := Lib.hid hyt
        have HRB := Lib.hid hRb
        have HRT := Lib.hid hRt
        have HCX : Hid (∀ W, JS w W bx bq (X : Int) (Q : Int) → W.cell? ⟨bx, 0, none⟩ = some (.bool xb) ∧ W.cell? ⟨bx, 1, none⟩ = some (.string xt) ∧ W.cell? ⟨bq, 0, none⟩ = some (.bool qb) ∧ W.cell? ⟨bq, 1, none⟩ = some (.string qt)) := fun W h => by
          rw [hxb, hxt, hqb, hqt]; exact h.cells
        clear hp hr hbl hcl hrl hrcl p1 p2 p4 p5 hrp hg hst hh hs hhl hsl i1 i2 hv hd hdl hm hM hY hR hRp hRle hYR rX rQ rY rM rR rp rm hQ hX hXQ hQb HC hxb hxt hqb hqt hmb hmt hpb hpt hMb hMt hyb hyt hRb hRt
        obtain ⟨y2, y1, y3⟩ := HPC.out wo HJ.out.bel
        obtain ⟨x0, x1, q0, q1⟩ := HCX.out wo HJ.out
        go_wp2_with fail
        (with_reducible refine (HMX.out _).mono ?_)
        rintro e w3 ⟨rfl, hb3⟩
        replace HJ := Lib.hid (HJ.out.below hb3)
        clear x0 x1 q0 q1 y1 y2 y3 hb3
        obtain ⟨x0, x1, q0, q1⟩ := HCX.out w3 HJ.out
        go_wp2_with fail
        (with_reducible refine (HMQ.out _).mono ?_)
        rintro e w4 ⟨rfl, hb3⟩
        replace HJ := Lib.hid (HJ.out.below hb3)
        clear x0 x1 q0 q1 hb3
        go_wp2_with fail
        (with_reducible refine (HIN.out _).mono ?_)
        rintro e w5 ⟨rfl, hb3⟩
        replace HJ := Lib.hid (HJ.out.below hb3)
        clear hb3
        obtain ⟨y2, y1, y3⟩ := HPC.out w5 HJ.out.bel
        go_wp2_with fail
        (with_reducible refine (HSU.out _).mono ?_)
        rintro e w6 ⟨rfl, hb3⟩
        replace HJ := Lib.hid (HJ.out.below hb3)
        clear hb3 y1 y2 y3
        go_wp2_with fail
        (with_reducible refine (HMU.out _).mono ?_)
        rintro e w7 ⟨rfl, hb3⟩
        replace HJ := Lib.hid (HJ.out.below hb3)
        clear hb3
        go_upto_region 13 with (fail)
        have HJ7 := HJ
        have hS0 : ∀ W, Below w7.heap.size w7 W → W.cell? ⟨bq, 0, none⟩ = some (.bool qb) ∧ W.cell? ⟨bq, 1, none⟩ = some (.string qt) := fun W hb => by
          obtain ⟨-, -, q0, q1⟩ := HCX.out W (HJ7.out.below hb)
          exact ⟨q0, q1⟩
        refine wp_region_AE 9 7 w7.heap.size (fun w' => w'.cell? ⟨bq, 0, none⟩ = some (.bool qb) ∧ w'.cell? ⟨bq, 1, none⟩ = some (.string qt)) (fun W => Below w7.heap.size w7 W) (fun j => decide (9 ≤ j)) (by kernel_rfl) rfl (by kernel_rfl) (fun _ _ _ _ h => h) (by kernel_rfl) (fact_below (Nat.le_refl _) hS0) ((Below.refl _ _).drew) (fun hF => ?_)
        refine wpAnyA_alloc 8 (.cells #[.bool false, .string ⟨#[]⟩] 38) (by kernel_rfl) rfl rfl (by kernel_rfl) (by kernel_rfl) (fun _ => rfl) (fun _ _ => rfl) (fun _ _ _ _ h => h) hF ?_
        try simp only [Act.put, List.setIfInBounds_toArray, List.set_cons_zero, List.set_cons_succ]
        refine wpAnyA_take 0 (v := ?_) (by kernel_rfl) rfl rfl (by kernel_rfl) (by kernel_rfl) (fun _ _ _ h => h) (Or.inl ⟨by rfl, ?_⟩) (by assumption) ?_
        rotate_left
        · (intro wq hSq; (try dsimp only at hSq); go_simp; try with_reducible rfl)
        try simp only [Act.put, List.setIfInBounds_toArray, List.set_cons_zero, List.set_cons_succ]
        refine wpAnyA_take 1 (v := ?_) (by kernel_rfl) rfl rfl (by kernel_rfl) (by kernel_rfl) (fun _ _ _ h => h) (Or.inl ⟨by rfl, ?_⟩) (by assumption) ?_
        rotate_left
        · (intro wq hSq; (try dsimp only at hSq); go_simp; try with_reducible rfl)
        try simp only [Act.put, List.setIfInBounds_toArray, List.set_cons_zero, List.set_cons_succ]
        refine wpAnyA_take 2 (v := ?_) (by kernel_rfl) rfl rfl (by kernel_rfl) (by kernel_rfl) (fun _ _ _ h => h) (Or.inl ⟨by rfl, ?_⟩) (by assumption) ?_
        rotate_left
        · (intro wq hSq; (try dsimp only at hSq); go_simp; try with_reducible rfl)
        try simp only [Act.put, List.setIfInBounds_toArray, List.set_cons_zero, List.set_cons_succ]
        refine wpAnyA_step 3 (by kernel_rfl) rfl rfl (fun wq (hFq : Below w7.heap.size w7 wq) K hK => ?_)
        go_simp
        (with_reducible refine (HOM.out _).mono ?_)
        rintro e w8 ⟨rfl, hb6⟩
        have hd6 : Below w7.heap.size w7 w8 := below_via hFq hb6
        have hF6 : Fact w7.heap.size (fun w' => w'.cell? ⟨bq, 0, none⟩ = some (.bool qb) ∧ w'.cell? ⟨bq, 1, none⟩ = some (.string qt)) (fun W => Below w8.heap.size w8 W) := fact_below hd6.size (fun W hb => hS0 W (below_via hd6 hb))
        refine hK.out _ _ hb6 (fun W => Below w8.heap.size w8 W) hF6 (Below.refl _ _) ?_
        clear hK K hFq hb6
        try simp only [Act.put, List.setIfInBounds_toArray, List.set_cons_zero, List.set_cons_succ]
        refine wpAnyA_step 4 (by kernel_rfl) rfl rfl (fun wq (hFq : Below w8.heap.size w8 wq) K hK => ?_)
        go_simp
        (with_reducible refine (HQM.out _).mono ?_)
        rintro e w9 ⟨rfl, hb7⟩
        have hd7 : Below w7.heap.size w7 w9 := below_via hd6 (below_via hFq hb7)
        have hF7 : Fact w7.heap.size (fun w' => w'.cell? ⟨bq, 0, none⟩ = some (.bool qb) ∧ w'.cell? ⟨bq, 1, none⟩ = some (.string qt)) (fun W => Below w9.heap.size w9 W) := fact_below hd7.size (fun W hb => hS0 W (below_via hd7 hb))
        refine hK.out _ _ hb7 (fun W => Below w9.heap.size w9 W) hF7 (Below.refl _ _) ?_
        clear hK K hFq hb7
        try simp only [Act.put, List.setIfInBounds_toArray, List.set_cons_zero, List.set_cons_succ]
        refine wpAnyA_take 5 (v := ?_) (by kernel_rfl) rfl rfl (by kernel_rfl) (by kernel_rfl) (fun _ _ _ h => h) (Or.inl ⟨by rfl, ?_⟩) (by assumption) ?_
        rotate_left
        · (intro wq hSq; (try dsimp only at hSq); go_simp; try with_reducible rfl)
        try simp only [Act.put, List.setIfInBounds_toArray, List.set_cons_zero, List.set_cons_succ]
        refine wpAnyA_take 6 (v := ?_) (by kernel_rfl) rfl rfl (by kernel_rfl) (by kernel_rfl) (fun _ _ _ h => h) (Or.inl ⟨by rfl, ?_⟩) (by assumption) ?_
        rotate_left
        · (intro wq hSq; (try dsimp only at hSq); go_simp; try with_reducible rfl)
        try simp only [Act.put, List.setIfInBounds_toArray, List.set_cons_zero, List.set_cons_succ]
        refine wpAnyA_take 7 (v := ?_) (by kernel_rfl) rfl rfl (by kernel_rfl) (by kernel_rfl) (fun _ _ _ h => h) (Or.inl ⟨by rfl, ?_⟩) (by assumption) ?_
        rotate_left
        · (intro wq hSq; (try dsimp only at hSq); go_simp; try with_reducible rfl)
        try simp only [Act.put, List.setIfInBounds_toArray, List.set_cons_zero, List.set_cons_succ]
        refine wpAnyA_end (by kernel_rfl) (fun z0 (hFx : Below w9.heap.size w9 z0) => ?_)
        intro q hq hq7
        have hd0 := below_via hd7 hFx
        clear hF hF6 hF7 hS0 hd6 hd7 hFx
        obtain ⟨d0, d1, zf⟩ := wide_cells hq7
        have hz0 := zf 0
        have hz1 := zf 1
        refine wpAny_of_D (S := fun _ => True) (late := fun _ => true) _ _ _ _ ?_
        refine wpAnyD_step 9 (by kernel_rfl) rfl rfl (fun K hK => ?_)
        simp only [moreAfter]
        go_simp
        refine hK.out _ _ ?_
        clear hK K d0 d1 zf hz0 hz1
        try simp only [Act.put, List.setIfInBounds_toArray, List.set_cons_zero, List.set_cons_succ]
        have m0 := wide_set hq7 Mb Mt
        have hd1 : Below w7.heap.size w7 ((z0.setCell ⟨q, 0, none⟩ (.bool Mb)).setCell ⟨q, 1, none⟩ (.string Mt)) := (hd0.setCell hq _).setCell hq _
        clear hq7 hd0
        generalize (z0.setCell ⟨q, 0, none⟩ (.bool Mb)).setCell ⟨q, 1, none⟩ (.string Mt) = wA at m0 hd1 ⊢
        refine wpAnyD_step 10 (by kernel_rfl) rfl rfl (fun K hK => ?_)
        go_simp
        refine hK.out _ _ ?_
        clear hK K
        try simp only [Act.put, List.setIfInBounds_toArray, List.set_cons_zero, List.set_cons_succ]
        refine wpAnyD_end (by kernel_rfl) ?_
        replace HJ := Lib.hid (HJ7.out.below hd1)
        obtain ⟨x0, x1, -, -⟩ := HCX.out wA HJ.out
        obtain ⟨m1, m2, -⟩ := wide_cells m0
        clear hd1 HJ7 m0 hq
        go_wp2_with fail
        (with_reducible refine (HAD.out _).mono ?_)
        rintro e wB ⟨rfl, hb3⟩
        replace HJ := Lib.hid (HJ.out.below hb3)
        clear x0 x1 m1 m2 hb3
        obtain ⟨x0, x1, xf⟩ := wide_cells HJ.out.hx
        have HJY := HJ.out.setX hw1 hw2 (Y : Int)
        rw [← HYB.out, ← HYT.out] at HJY
        go_upto_region 15 with (fail)
        generalize (wB.setCell ⟨bx, 0, none⟩ (.bool yb)).setCell ⟨bx, 1, none⟩ (.string yt) = wC at HJY ⊢
        clear x0 x1 xf HJ
        have HJ8 := Lib.hid HJY
        have hkq : ∀ W, Below wC.heap.size wC W → W.cell? ⟨bq, 0, none⟩ = some (.bool qb) ∧ W.cell? ⟨bq, 1, none⟩ = some (.string qt) := fun W hb => by
          have h := HJY.below hb
          have h2 := wide_cells h.hq
          rw [← HQB.out, ← HQT.out] at h2
          exact ⟨h2.1, h2.2.1⟩
        have HKQ := Lib.hid hkq
        obtain ⟨q0, q1⟩ := hkq wC (Below.refl _ _)
        clear HJY hkq
        refine wp_region_late (fun w' => w'.cell? ⟨bq, 0, none⟩ = some (.bool qb) ∧ w'.cell? ⟨bq, 1, none⟩ = some (.string qt)) (fun j => decide (j = 8)) (by kernel_rfl) ⟨q0, q1⟩ (fun hHeld => ?_)
        refine wpAnyD_take 0 (v := ?_) (by kernel_rfl) (by kernel_rfl) rfl (by kernel_rfl) (by kernel_rfl) (fun _ _ _ h => h) (Or.inl ⟨by rfl, ?_⟩) (by assumption) ?_
        rotate_left
        · (intro wq hSq; (try dsimp only at hSq); go_simp; try with_reducible rfl)
        try simp only [Act.put, List.setIfInBounds_toArray, List.set_cons_zero, List.set_cons_succ]
        refine wpAnyD_take 1 (v := ?_) (by kernel_rfl) (by kernel_rfl) rfl (by kernel_rfl) (by kernel_rfl) (fun _ _ _ h => h) (Or.inl ⟨by rfl, ?_⟩) (by assumption) ?_
        rotate_left
        · (intro wq hSq; (try dsimp only at hSq); go_simp; try with_reducible rfl)
        try simp only [Act.put, List.setIfInBounds_toArray, List.set_cons_zero, List.set_cons_succ]
        refine wpAnyD_take 2 (v := ?_) (by kernel_rfl) (by kernel_rfl) rfl (by kernel_rfl) (by kernel_rfl) (fun _ _ _ h => h) (Or.inl ⟨by rfl, ?_⟩) (by assumption) ?_
        rotate_left
        · (intro wq hSq; (try dsimp only at hSq); go_simp; try with_reducible rfl)
        try simp only [Act.put, List.setIfInBounds_toArray, List.set_cons_zero, List.set_cons_succ]
        refine wpAnyD_keep 3 (by kernel_rfl) rfl (fun K hK => ?_)
        go_simp
        go_at_call 24
        (with_reducible refine (HOP.out _).mono ?_)
        rintro e wD ⟨rfl, hbB⟩
        have hbB' : Below wC.heap.size wC wD := ((Below.refl wC.heap.size wC).drew).trans hbB
        refine hK.out _ _ (HKQ.out _ hbB') (fun hHeld3 => ?_)
        have HBB := Lib.hid hbB'
        clear hK K hHeld hbB hbB'
        try simp only [Act.put, List.setIfInBounds_toArray, List.set_cons_zero, List.set_cons_succ]
        refine wpAnyD_keep 4 (by kernel_rfl) rfl (fun K hK => ?_)
        go_simp
        go_at_call 28
        (with_reducible refine (HQP.out _).mono ?_)
        rintro e wE ⟨rfl, hbC⟩
        have hbC' : Below wC.heap.size wC wE := below_via HBB.out hbC
        refine hK.out _ _ (HKQ.out _ hbC') (fun hHeld4 => ?_)
        have HJE := Lib.hid (HJ8.out.below hbC')
        clear hK K hHeld3 hbC hbC' q0 q1
        try simp only [Act.put, List.setIfInBounds_toArray, List.set_cons_zero, List.set_cons_succ]
        refine wpAnyD_takeW 5 (v := ?_) (by kernel_rfl) rfl (by kernel_rfl) (by kernel_rfl) (fun _ _ _ h => h) (Or.inl ⟨by rfl, ?_⟩) ?_
        rotate_left
        · (intro wq hSq; (try dsimp only at hSq); go_simp; try with_reducible rfl)
        try simp only [Act.put, List.setIfInBounds_toArray, List.set_cons_zero, List.set_cons_succ]
        refine wpAnyD_takeW 6 (v := ?_) (by kernel_rfl) rfl (by kernel_rfl) (by kernel_rfl) (fun _ _ _ h => h) (Or.inl ⟨by rfl, ?_⟩) ?_
        rotate_left
        · (intro wq hSq; (try dsimp only at hSq); go_simp; try with_reducible rfl)
        try simp only [Act.put, List.setIfInBounds_toArray, List.set_cons_zero, List.set_cons_succ]
        refine wpAnyD_takeW 7 (v := ?_) (by kernel_rfl) rfl (by kernel_rfl) (by kernel_rfl) (fun _ _ _ h => h) (Or.inl ⟨by rfl, ?_⟩) ?_
        rotate_left
        · (intro wq hSq; (try dsimp only at hSq); go_simp; try with_reducible rfl)
        try simp only [Act.put, List.setIfInBounds_toArray, List.set_cons_zero, List.set_cons_succ]
        refine wpAnyD_step 8 (by kernel_rfl) rfl rfl (fun K hK => ?_)
        obtain ⟨q0, q1, qf⟩ := wide_cells HJE.out.hq
        go_simp
        refine hK.out _ _ ?_
        clear hK K hHeld4 q0 q1 qf
        refine wpAnyD_end (by kernel_rfl) ?_
        have HJR := HJE.out.setQ hw1 hw2 (R : Int)
        rw [← HRB.out, ← HRT.out] at HJR
        generalize (wE.setCell ⟨bq, 0, none⟩ (.bool Rb)).setCell ⟨bq, 1, none⟩ (.string Rt) = wF at HJR ⊢
        go_wp2_with fail
        go_roundw
        case rel => exact ⟨k + 1, Y, R, by omega, by go_num, HJR, HC2.out⟩
        case measure => simp [intOf]; omega
      · obtain rfl : k = n := by omega
        have hXc : X = crtN ps rs := by
          have h1 := hX
          rw [HNP.out, List.take_length, ← HNP.out, HN.out, List.take_length] at h1
          exact h1.uniq HSEP.out (by rw [← HN.out]; exact HNP.out) (crtN_ok HSEP.out HROWP.out)
        have hQp : Q = prodL ps := by rw [hQ, HNP.out, List.take_length]
        have hjz : balZ (X : Int) (Q : Int) = joinZ ps rs := by rw [hXc, hQp]; rfl
        have hbal : ∀ W : World, Calls Try.prog 34 #[.agg #[.bool (zN (X : Int)), .string (zT (X : Int))], .agg #[.bool (zN (Q : Int)), .string (zT (Q : Int))]] W (WideOk (joinZ ps rs) W) := fun W => by
          rw [← hjz]; exact refBalanced_z X Q rX rQ (by omega) W
        obtain ⟨xb, hxb⟩ : ∃ z, z = zN (X : Int) := ⟨_, rfl⟩
        obtain ⟨xt, hxt⟩ : ∃ z, z = zT (X : Int) := ⟨_, rfl⟩
        obtain ⟨qb, hqb⟩ : ∃ z, z = zN (Q : Int) := ⟨_, rfl⟩
        obtain ⟨qt, hqt⟩ : ∃ z, z = zT (Q : Int) := ⟨_, rfl⟩
        obtain ⟨jb, hjb⟩ : ∃ z, z = zN (joinZ ps rs) := ⟨_, rfl⟩
        obtain ⟨jt, hjt⟩ : ∃ z, z = zT (joinZ ps rs) := ⟨_, rfl⟩
        unfold WideOk at hbal
        rw [← hxb, ← hxt, ← hqb, ← hqt, ← hjb, ← hjt] at hbal
        have HBAL := Lib.hid hbal
        have hcc := HJ.out.cells
        rw [← hxb, ← hxt, ← hqb, ← hqt] at hcc
        obtain ⟨x0, x1, q0, q1⟩ := hcc
        have HJB := Lib.hid hjb
        have HJT := Lib.hid hjt
        clear hXc hQp hjz hbal hxb hxt hqb hqt hjb hjt rX rQ hX hXQ hQb HC hQ
        go_wp2_with fail
        (with_reducible refine (HBAL.out _).mono ?_)
        rintro e w3 ⟨rfl, hb3⟩
        have hj3 := HJ.out.below hb3
        have hg3 := hj3.h0
        obtain ⟨r0, r1, rf⟩ := wide_cells hg3
        have m2 := wide_set hg3 jb jt
        have hb9 := below_set2 (p := w.heap.size) hj3.bel (Nat.le_refl _) jb jt
        clear hj3 hg3 hb3 x0 x1 q0 q1
        go_wp2
        obtain ⟨d20, d21, -⟩ := wide_cells m2
        clear m2 r0 r1 rf
        generalize (w3.setCell ⟨w.heap.size, 0, none⟩ (.bool jb)).setCell ⟨w.heap.size, 1, none⟩ (.string jt) = W9 at d20 d21 hb9 ⊢
        rw [HP.out]
        exact bodyPost_ret (v := .tuple #[.agg #[.bool jb, .string jt], .int .i64 0]) (by simp [results, Try.results31, go_sem, d20, d21]) rfl ⟨by simp only [if_true, HJB.out, HJT.out], hb9⟩
end Go.Proofs.Ytnjblppapmflhaa

/- Walks: the reference makes a system. -/
namespace Go.Proofs.Ytnjblppapmflhaa
set_option linter.all false
open Go.RowKit Go.Shelf Go.WideNum PN
/-- The reference's system under way. -/
structure RNew (w W : World) (c : Nat) (lv : Value) (l : List Nat) (Q : Nat) : Prop where
  h0 : W.heap[c]? = some (.cells #[lv, .bool (zN (Q : Nat)), .string (zT (Q : Nat))] 64)
  ol : W.owns (c + 1) 23 1 lv l.length (l.map u32V)
  bel : Below w.heap.size w W
  hc : w.heap.size ≤ c
theorem RNew.below {w W W' : World} {c : Nat} {lv : Value} {l : List Nat} {Q : Nat} (h : RNew w W c lv l Q) (hb : Below W.heap.size W W') : RNew w W' c lv l Q :=
  ⟨hold_heap h.h0 hb, h.ol.below hb, below_via h.bel hb, h.hc⟩
theorem RNew.sys {w W : World} {c : Nat} {lv : Value} {ps : List Nat} (h : RNew w W c lv ps (prodL ps)) : RefAt W c ps := ⟨lv, h.h0, h.ol.reads⟩
theorem RNew.size {w W : World} {c : Nat} {lv : Value} {l : List Nat} {Q : Nat} (h : RNew w W c lv l Q) : c + 1 ≤ W.heap.size := lt_of_heap h.h0
theorem RNew.start {w W : World} (hb : Below w.heap.size w W) (Q : Nat) : RNew w (W.alloc (.cells #[.slice none 0 0, .bool (zN (Q : Nat)), .string (zT (Q : Nat))] 64)) W.heap.size (.slice none 0 0) [] Q :=
  ⟨heap_alloc_new W _, World.owns_nil _ _ _ _, hb.alloc hb.size _, hb.size⟩
theorem RNew.pushL {w W W' : World} {c : Nat} {lv lv' : Value} {l : List Nat} {Q p : Nat} (h : RNew w W c lv l Q) (ho : W'.owns (c + 1) 23 1 lv' (l.length + 1) (l.map u32V ++ [u32V p])) (hg : W.grownBy W' lv.ownBlock) :
    W'.heap[c]? = some (.cells #[lv, .bool (zN (Q : Nat)), .string (zT (Q : Nat))] 64) ∧ RNew w (W'.setCell ⟨c, 0, none⟩ lv') c lv' (l ++ [p]) Q := by
  have hs := h.size
  have hc := h.hc
  have hk : W'.heap[c]? = some (.cells #[lv, .bool (zN (Q : Nat)), .string (zT (Q : Nat))] 64) := by
    rw [hg.block _ (by omega) (fun e => by have := (h.ol.lt _ e.symm).1; omega)]; exact h.h0
  refine ⟨hk, ?_, ?_, ?_, hc⟩
  · simp [World.setCell, Array.getElem?_modify, hk]
  · have := ho.setCell (a := ⟨c, 0, none⟩) (by simp) lv'
    rw [List.length_append, List.map_append]
    exact this
  · have h1 : Below w.heap.size w W' := h.bel.grown hg (by omega) (fun k hk => by have := (h.ol.lt k hk).1; omega)
    exact h1.setCell (by simpa using hc) _
theorem RNew.setQ {w W : World} {c : Nat} {lv : Value} {l : List Nat} {Q : Nat} (h : RNew w W c lv l Q) (R : Nat) : RNew w ((W.setCell ⟨c, 1, none⟩ (.bool (zN (R : Nat)))).setCell ⟨c, 2, none⟩ (.string (zT (R : Nat)))) c lv l R := by
  have hc := h.hc
  refine ⟨?_, ?_, ?_, hc⟩
  · simp [World.setCell, Array.getElem?_modify, h.h0]
  · exact (h.ol.setCell (by simp) _).setCell (by simp) _
  · exact (h.bel.setCell (by simpa using hc) _).setCell (by simpa using hc) _
def RefRet (w : World) (ps : List Nat) (ok : Bool) (e : Ending) (w' : World) : Prop :=
  Below w.heap.size w w' ∧ (if ok then ∃ c, e = .returned (.tuple #[.pointer (some ⟨c, 0, none⟩), .int .i64 0]) ∧ RefAt w' c ps else e = .returned (.tuple #[.pointer none, .int .i64 2]))
/-- A system of the reference's, whose blocks lie from B on. -/
def RefO (B : Nat) (w : World) (c : Nat) (ps : List Nat) : Prop := B ≤ c ∧ ∃ lv, w.heap[c]? = some (.cells #[lv, .bool (zN (prodL ps : Nat)), .string (zT (prodL ps : Nat))] 64) ∧ w.owns B 23 1 lv ps.length (ps.map u32V)
theorem RefO.ref {B : Nat} {w : World} {c : Nat} {ps : List Nat} (h : RefO B w c ps) : RefAt w c ps := by
  obtain ⟨-, lv, h1, h2⟩ := h
  exact ⟨lv, h1, h2.reads⟩
theorem RefO.below {B : Nat} {w w' : World} {c : Nat} {ps : List Nat} (h : RefO B w c ps) (hb : Below w.heap.size w w') : RefO B w' c ps := by
  obtain ⟨h0, lv, h1, h2⟩ := h
  exact ⟨h0, lv, hold_heap h1 hb, h2.below hb⟩
theorem RefO.setCell {B : Nat} {w : World} {c : Nat} {ps : List Nat} (h : RefO B w c ps) {a : Addr} (ha : a.block < B) (x : Value) : RefO B (w.setCell a x) c ps := by
  obtain ⟨h0, lv, h1, h2⟩ := h
  exact ⟨h0, lv, by rw [Below.heap_setCell _ _ _ _ (by omega)]; exact h1, h2.setCell ha x⟩
theorem RNew.so {w W : World} {c : Nat} {lv : Value} {ps : List Nat} (h : RNew w W c lv ps (prodL ps)) : RefO w.heap.size W c ps := ⟨h.hc, lv, h.h0, h.ol.mono (by have := h.hc; omega)⟩
def RefRetS (w : World) (ps : List Nat) (ok : Bool) (e : Ending) (w' : World) : Prop :=
  Below w.heap.size w w' ∧ (if ok then ∃ c, e = .returned (.tuple #[.pointer (some ⟨c, 0, none⟩), .int .i64 0]) ∧ RefO w.heap.size w' c ps else e = .returned (.tuple #[.pointer none, .int .i64 2]))
theorem RefRetS.no {w w' : World} {ps : List Nat} (h : Below w.heap.size w w') : RefRetS w ps false (.returned (.tuple #[.pointer none, .int .i64 2])) w' := ⟨h, rfl⟩
set_option maxRecDepth 100000 in
set_option maxHeartbeats 8000000 in
theorem refNew_so (ps : List Nat) (pv : Value) (w : World) (hr : w.reads w.heap.size pv (ps.map u32V)) (hpb : ∀ p ∈ ps, p < 4294967296) (ok : Bool) (hok : ok = true ↔ SysP ps) :
    Calls Try.prog 35 #[pv] w (RefRetS w ps ok) := by
  obtain ⟨HPOST, hpost⟩ : ∃ R, R = RefRetS w ps ok := ⟨_, rfl⟩
  rw [← hpost]
  have HP := Lib.hid hpost
  have HOK := Lib.hid hok
  have hl1 := hr.le_map
  have HPB := Lib.hid hpb
  obtain ⟨pa, pc, rfl, hpc, hpm, hps⟩ := reads_u32 hr
  have HS := Lib.hid hps
  obtain ⟨n, hn⟩ : ∃ n, n = ps.length := ⟨_, rfl⟩
  rw [← hn] at hpc hl1 ⊢
  have HN := Lib.hid hn
  clear hpost hok hr hps hn hpb
  by_cases h1 : n < 1
  · have t1 : (n : Int) < 1 := by omega
    obtain rfl : ok = false := by
      cases h : ok
      · rfl
      · have := (HOK.out.1 h).1; have := HN.out; omega
    clear h1
    go_enter Try.func35, Try.ntmps35
    go_wp2
    rw [HP.out]
    exact RefRetS.no (Below.refl _ _)
  have t1 : ¬ (n : Int) < 1 := by omega
  by_cases h2 : 25 < n
  · have t2 : (25 : Int) < (n : Int) := by omega
    obtain rfl : ok = false := by
      cases h : ok
      · rfl
      · have := (HOK.out.1 h).2.1; have := HN.out; omega
    clear h1 h2
    go_enter Try.func35, Try.ntmps35
    go_wp2
    rw [HP.out]
    exact RefRetS.no (Below.refl _ _)
  have t2 : ¬ (25 : Int) < (n : Int) := by omega
  have hof := fun W => refOf_z 1 (by omega) (by omega) W
  obtain ⟨ob, hob⟩ : ∃ z, z = zN 1 := ⟨_, rfl⟩
  obtain ⟨ot, hot⟩ : ∃ z, z = zT 1 := ⟨_, rfl⟩
  rw [← hob, ← hot] at hof
  have HOF := Lib.hid hof
  have HOB := Lib.hid hob
  have HOT := Lib.hid hot
  clear hof hob hot h1 h2
  go_enter Try.func35, Try.ntmps35
  go_wp2_with fail
  (with_reducible refine (HOF.out _).mono ?_)
  rintro e w1 ⟨rfl, hb1⟩
  go_upto_region 4 with (fail)
  have hst := RNew.start hb1 1
  rw [Int.natCast_one, ← HOB.out, ← HOT.out] at hst
  obtain ⟨c, hc⟩ : ∃ c, c = w1.heap.size := ⟨_, rfl⟩
  rw [← hc] at hst ⊢
  generalize w1.alloc (.cells #[.slice none 0 0, .bool ob, .string ot] 64) = w2 at hst ⊢
  have HST := Lib.hid hst
  clear hb1 hst hc HOF HOB HOT
  go_wp2_with fail
  go_loopw [5] (fun iv wx => ∃ k : Nat, k ≤ n ∧ iv = .int .i64 (k : Int) ∧ Hid (SysTo ps k) ∧ Hid (∃ lv, RNew w wx c lv (ps.take k) (prodL (ps.take k)))) (fun iv _ => n - (intOf iv).toNat)
  case atStart => exact ⟨0, Nat.zero_le _, rfl, fun i hi => by omega, ⟨_, HST.out⟩⟩
  case round =>
    obtain ⟨k, hk, rfl, hto, hS⟩ := hrel
    obtain ⟨wo, rfl⟩ : ∃ x, x = wr := ⟨_, rfl⟩
    obtain ⟨lv, hS⟩ := hS.out
    have HS0 := Lib.hid hS
    clear hS
    by_cases hlt : k < n
    · have hkp : k < ps.length := by rw [← HN.out]; exact hlt
      obtain ⟨p, hp⟩ : ∃ p, ps[k]? = some p := ⟨ps[k], List.getElem?_eq_getElem hkp⟩
      obtain ⟨b2, o2, rfl, hb2l, d2⟩ := HS.out k p hp
      have hpl : p < 4294967296 := HPB.out p (List.mem_of_getElem? hp)
      have e2 := (HS0.out.bel.cell (p := ⟨b2, o2 + k, none⟩) hb2l).trans d2
      have HP1 := Lib.hid hp
      have s1 : (k : Int) < (n : Int) := by omega
      clear hkp hp d2
      by_cases hev : p % 2 = 0
      · obtain rfl : ok = false := not_sys HOK.out HP1.out (fun h => by have := h.1; omega)
        have u1 : (p : Int) % 2 = 0 := by omega
        clear hev
        go_wp2
        rw [HP.out]
        exact RefRetS.no HS0.out.bel
      have u1 : (p : Int) % 2 = 1 := by omega
      by_cases hmx : 2147483647 < p
      · obtain rfl : ok = false := not_sys HOK.out HP1.out (fun h => by have := h.2.1; omega)
        have u2 : (2147483647 : Int) < (p : Int) := by omega
        clear hev hmx
        go_wp2
        rw [HP.out]
        exact RefRetS.no HS0.out.bel
      have u2 : ¬ (2147483647 : Int) < (p : Int) := by omega
      have hmax : p ≤ 2147483647 := by omega
      have hodd : p % 2 = 1 := by omega
      obtain ⟨pr, hpr⟩ := em_bool (RefP p)
      have HPRM := Lib.hid (fun W => Prime01_any p hpl pr hpr W)
      have HPR := Lib.hid hpr
      clear hpr hev hmx
      go_wp2_with fail
      (with_reducible refine (HPRM.out _).mono ?_)
      rintro e w3 ⟨rfl, rfl⟩
      cases pr with
      | false =>
        obtain rfl : ok = false := not_sys HOK.out HP1.out (fun h => by have := HPR.out.2 ((prime_iff (by omega)).1 h.2.2.2); cases this)
        go_wp2
        rw [HP.out]
        exact RefRetS.no HS0.out.bel
      | true =>
        have hprime : PrimeP p := (prime_iff (by omega)).2 (HPR.out.1 rfl)
        have HPP := Lib.hid hprime
        clear hprime
        go_wp2_with fail
        go_loopw [7] (fun jv wx => ∃ j : Nat, j ≤ k ∧ jv = .int .i64 (j : Int) ∧ wx = wo ∧ Hid (∀ i q : Nat, i < j → ps[i]? = some q → q ≠ p)) (fun jv _ => k - (intOf jv).toNat)
        case atStart => exact ⟨0, Nat.zero_le _, rfl, rfl, fun i q hi => by omega⟩
        case round =>
          obtain ⟨j, hj, rfl, rfl, hne⟩ := hrel
          by_cases hjk : j < k
          · have hjp : j < ps.length := by have := HN.out; omega
            obtain ⟨q, hq⟩ : ∃ q, ps[j]? = some q := ⟨ps[j], List.getElem?_eq_getElem hjp⟩
            obtain ⟨b3, o3, hpa3, hb3l, d3⟩ := HS.out j q hq
            injection hpa3 with hpa3
            injection hpa3 with hpa3 hpa4 _
            subst hpa3 hpa4
            have e3 := (HS0.out.bel.cell (p := ⟨b2, o2 + j, none⟩) hb3l).trans d3
            have t3 : (j : Int) < (k : Int) := by omega
            have t4 : (j : Int) < (n : Int) := by omega
            have HQ := Lib.hid hq
            clear hjp hq d3
            by_cases hqp : q = p
            · subst hqp
              obtain rfl : ok = false := not_sys HOK.out HP1.out (fun h => h.2.2.1 (List.mem_of_getElem? (by rw [List.getElem?_take, if_pos hjk]; exact HQ.out)))
              have t5 : ((q : Int) == (q : Int)) = true := by simp
              clear hne
              go_wp2
              rw [HP.out]
              exact RefRetS.no HS0.out.bel
            · have t5 : ((q : Int) == (p : Int)) = false := by rw [beq_eq_false_iff_ne]; omega
              have HNE : Hid (∀ i q : Nat, i < j + 1 → ps[i]? = some q → q ≠ p) := fun i q' hi hq' => by
                rcases (show i < j ∨ i = j by omega) with h | rfl
                · exact hne.out i q' h hq'
                · rw [HQ.out] at hq'; injection hq' with hq'; omega
              clear hne hqp
              go_wp2_with fail
              go_roundw
              case rel => exact ⟨j + 1, by omega, by go_num, trivial, HNE.out⟩
              case measure => simp [intOf]; omega
          · obtain rfl : j = k := by omega
            have hnot : p ∉ ps.take j := fun hm => by
              obtain ⟨i, hi⟩ := List.mem_iff_getElem?.1 hm
              rw [List.getElem?_take] at hi
              split at hi
              · exact hne.out i p (by assumption) hi rfl
              · cases hi
            have hok1 : OkAt (ps.take j) p := ⟨hodd, hmax, hnot, HPP.out⟩
            have HTO2 := Lib.hid (hto.out.succ HP1.out hok1)
            clear hne hnot hok1 hto e2
            have hll : (ps.take j).length = j := by rw [List.length_take]; have := HN.out; omega
            obtain ⟨la, lc, hlv, -⟩ := HS0.out.ol.at_
            rw [hll] at hlv
            subst hlv
            have hol := HS0.out.ol
            rw [hll] at hol
            have HOL := Lib.hid hol
            have HLL := Lib.hid hll
            obtain ⟨c0, -, -, f0, -⟩ := three_ref HS0.out.h0
            have hwr1 : c + 1 ≤ wr.heap.size := HS0.out.size
            obtain ⟨i0, hi0, hiz, hiz1, hizb⟩ := info_parts infoU32
            have HI0 := Lib.hid hi0
            have t6 : ¬ (j : Int) < (j : Int) := by omega
            clear hll hol hi0
            go_upto_region 16 with (at_builtin; refine wpList_pushF wr rfl (.tmp 56) (.tmp 58) 22 rfl (c + 1) 23 i0 (.int .u32 0) 4 Try.underlying22 HI0.out hiz hiz1 hizb rfl (.slice la j lc) j _ rfl HOL.out (.int .u32 (p : Int)) wr.heap.size rfl rfl (by simp [Value.oneCell']) (by unfold maxLen; omega) (by omega) hwr1 ?_; intro v7 w7 ho7 hg7 hz7 hf7; obtain ⟨hk7, hN7⟩ := HS0.out.pushL (p := p) (by rw [HLL.out]; exact ho7) hg7; have HN7 := Lib.hid hN7; obtain ⟨va7, vc7, rfl, -⟩ := ho7.at_; obtain ⟨c0, -, -, f0, -⟩ := three_ref hk7; clear ho7 hg7 hk7 hN7 hf7 hz7)
            generalize w7.setCell ⟨c, 0, none⟩ (.slice va7 (j + 1) vc7) = w8 at HN7 ⊢
            clear c0 f0 hwr1 HOL HS0
            obtain ⟨X, hX⟩ : ∃ X, X = prodL (ps.take j) := ⟨_, rfl⟩
            obtain ⟨Y, hY⟩ : ∃ Y, Y = X * p := ⟨_, rfl⟩
            have hYp : Y = prodL (ps.take (j + 1)) := by rw [take_succ' HP1.out, prodL_snoc, ← hX, hY]
            have hbd : ∀ i, i ≤ 26 → prodL (ps.take i) < 4294967296 ^ 64 := fun i hi => by
              have h1 := prodL_lt (l := ps.take i) (fun q hq => HPB.out q (List.mem_of_mem_take hq))
              have h2 : 4294967296 ^ (ps.take i).length ≤ 4294967296 ^ 26 := Nat.pow_le_pow_right (by omega) (by rw [List.length_take]; omega)
              have h3 : 4294967296 ^ 26 < 4294967296 ^ 64 := Nat.pow_lt_pow_right (by omega) (by omega)
              omega
            have rX : InR (X : Int) := by unfold InR; rw [Int.natAbs_natCast, lim_words, hX]; exact hbd j (by omega)
            have rY : InR (Y : Int) := by unfold InR; rw [Int.natAbs_natCast, lim_words, hYp]; exact hbd (j + 1) (by omega)
            have rp : InR (p : Int) := inR_small (by omega)
            have eY : (X : Int) * (p : Int) = (Y : Int) := by rw [hY]; simp
            have hmul := fun W => refMul_z (X : Int) (p : Int) rX rp (by rw [eY]; exact rY) W
            have hofp := fun W => refOf_z (p : Int) (by omega) (by omega) W
            unfold WideOk at hmul
            rw [eY] at hmul
            rw [← hX] at HN7
            obtain ⟨-, c1, c2, -⟩ := three_ref HN7.out.h0
            obtain ⟨xb, hxb⟩ : ∃ z, z = zN (X : Int) := ⟨_, rfl⟩
            obtain ⟨xt, hxt⟩ : ∃ z, z = zT (X : Int) := ⟨_, rfl⟩
            obtain ⟨yb, hyb⟩ : ∃ z, z = zN (Y : Int) := ⟨_, rfl⟩
            obtain ⟨yt, hyt⟩ : ∃ z, z = zT (Y : Int) := ⟨_, rfl⟩
            obtain ⟨pb, hpb⟩ : ∃ z, z = zN (p : Int) := ⟨_, rfl⟩
            obtain ⟨pt, hpt⟩ : ∃ z, z = zT (p : Int) := ⟨_, rfl⟩
            rw [← hxb, ← hxt, ← hpb, ← hpt, ← hyb, ← hyt] at hmul
            rw [← hxb] at c1
            rw [← hxt] at c2
            rw [← hpb, ← hpt] at hofp
            have HMUL := Lib.hid hmul
            have HOFP := Lib.hid hofp
            have HYB := Lib.hid hyb
            have HYT := Lib.hid hyt
            have HYP := Lib.hid hYp
            have hwA1 : c < w8.heap.size := HN7.out.size
            have w64p : IntKind.i64.wrap (p : Int) = (p : Int) := by rw [IntKind.wrap_i64]; omega
            clear hmul hofp hxb hxt hyb hyt hpb hpt hX hY hYp hbd rX rY rp eY
            refine wp_region_late (fun w' => w'.cell? ⟨c, 1, none⟩ = some (.bool xb) ∧ w'.cell? ⟨c, 2, none⟩ = some (.string xt)) (fun j => decide (j = 14)) (by kernel_rfl) ⟨c1, c2⟩ (fun hHeld => ?_)
            refine wpAnyD_take 0 (v := ?_) (by kernel_rfl) (by kernel_rfl) rfl (by kernel_rfl) (by kernel_rfl) (fun _ _ _ h => h) (Or.inl ⟨by rfl, ?_⟩) (by assumption) ?_
            rotate_left
            · (intro wq hSq; (try dsimp only at hSq); go_simp; try with_reducible rfl)
            try simp only [Act.put, List.setIfInBounds_toArray, List.set_cons_zero, List.set_cons_succ]
            refine wpAnyD_take 1 (v := ?_) (by kernel_rfl) (by kernel_rfl) rfl (by kernel_rfl) (by kernel_rfl) (fun _ _ _ h => h) (Or.inl ⟨by rfl, ?_⟩) (by assumption) ?_
            rotate_left
            · (intro wq hSq; (try dsimp only at hSq); go_simp; try with_reducible rfl)
            try simp only [Act.put, List.setIfInBounds_toArray, List.set_cons_zero, List.set_cons_succ]
            refine wpAnyD_take 2 (v := ?_) (by kernel_rfl) (by kernel_rfl) rfl (by kernel_rfl) (by kernel_rfl) (fun _ _ _ h => h) (Or.inl ⟨by rfl, ?_⟩) (by assumption) ?_
            rotate_left
            · (intro wq hSq; (try dsimp only at hSq); go_simp; try with_reducible rfl)
            try simp only [Act.put, List.setIfInBounds_toArray, List.set_cons_zero, List.set_cons_succ]
            refine wpAnyD_take 3 (v := ?_) (by kernel_rfl) (by kernel_rfl) rfl (by kernel_rfl) (by kernel_rfl) (fun _ _ _ h => h) (Or.inl ⟨by rfl, ?_⟩) (by assumption) ?_
            rotate_left
            · (intro wq hSq; (try dsimp only at hSq); go_simp; try with_reducible rfl)
            try simp only [Act.put, List.setIfInBounds_toArray, List.set_cons_zero, List.set_cons_succ]
            refine wpAnyD_take 4 (v := ?_) (by kernel_rfl) (by kernel_rfl) rfl (by kernel_rfl) (by kernel_rfl) (fun _ _ _ h => h) (Or.inl ⟨by rfl, ?_⟩) (by assumption) ?_
            rotate_left
            · (intro wq hSq; (try dsimp only at hSq); go_simp; try with_reducible rfl)
            try simp only [Act.put, List.setIfInBounds_toArray, List.set_cons_zero, List.set_cons_succ]
            refine wpAnyD_take 5 (v := ?_) (by kernel_rfl) (by kernel_rfl) rfl (by kernel_rfl) (by kernel_rfl) (fun _ _ _ h => h) (Or.inl ⟨by rfl, ?_⟩) (by assumption) ?_
            rotate_left
            · (intro wq hSq; (try dsimp only at hSq); go_simp; try with_reducible rfl)
            try simp only [Act.put, List.setIfInBounds_toArray, List.set_cons_zero, List.set_cons_succ]
            refine wpAnyD_take 6 (v := ?_) (by kernel_rfl) (by kernel_rfl) rfl (by kernel_rfl) (by kernel_rfl) (fun _ _ _ h => h) (Or.inl ⟨by rfl, ?_⟩) (by assumption) ?_
            rotate_left
            · (intro wq hSq; (try dsimp only at hSq); go_simp; try with_reducible rfl)
            try simp only [Act.put, List.setIfInBounds_toArray, List.set_cons_zero, List.set_cons_succ]
            refine wpAnyD_keep 7 (by kernel_rfl) rfl (fun K hK => ?_)
            go_simp
            go_at_call 24
            (with_reducible refine (HOFP.out _).mono ?_)
            rintro e wB ⟨rfl, hbB⟩
            have hbB' : Below w8.heap.size w8 wB := ((Below.refl w8.heap.size w8).drew).trans hbB
            refine hK.out _ _ ⟨(hbB'.cell (p := ⟨c, 1, none⟩) hwA1).trans c1, (hbB'.cell (p := ⟨c, 2, none⟩) hwA1).trans c2⟩ (fun hHeld3 => ?_)
            have HBB := Lib.hid hbB'
            clear hK K hHeld hbB hbB'
            try simp only [Act.put, List.setIfInBounds_toArray, List.set_cons_zero, List.set_cons_succ]
            refine wpAnyD_keep 8 (by kernel_rfl) rfl (fun K hK => ?_)
            go_simp
            go_at_call 28
            (with_reducible refine (HMUL.out _).mono ?_)
            rintro e wC ⟨rfl, hbC⟩
            have hbC' : Below w8.heap.size w8 wC := below_via HBB.out hbC
            refine hK.out _ _ ⟨(hbC'.cell (p := ⟨c, 1, none⟩) hwA1).trans c1, (hbC'.cell (p := ⟨c, 2, none⟩) hwA1).trans c2⟩ (fun hHeld4 => ?_)
            have HNC := Lib.hid (HN7.out.below hbC')
            clear hK K hHeld3 hbC hbC' c1 c2
            try simp only [Act.put, List.setIfInBounds_toArray, List.set_cons_zero, List.set_cons_succ]
            refine wpAnyD_takeW 9 (v := ?_) (by kernel_rfl) rfl (by kernel_rfl) (by kernel_rfl) (fun _ _ _ h => h) (Or.inl ⟨by rfl, ?_⟩) ?_
            rotate_left
            · (intro wq hSq; (try dsimp only at hSq); go_simp; try with_reducible rfl)
            try simp only [Act.put, List.setIfInBounds_toArray, List.set_cons_zero, List.set_cons_succ]
            refine wpAnyD_takeW 10 (v := ?_) (by kernel_rfl) rfl (by kernel_rfl) (by kernel_rfl) (fun _ _ _ h => h) (Or.inl ⟨by rfl, ?_⟩) ?_
            rotate_left
            · (intro wq hSq; (try dsimp only at hSq); go_simp; try with_reducible rfl)
            try simp only [Act.put, List.setIfInBounds_toArray, List.set_cons_zero, List.set_cons_succ]
            refine wpAnyD_takeW 11 (v := ?_) (by kernel_rfl) rfl (by kernel_rfl) (by kernel_rfl) (fun _ _ _ h => h) (Or.inl ⟨by rfl, ?_⟩) ?_
            rotate_left
            · (intro wq hSq; (try dsimp only at hSq); go_simp; try with_reducible rfl)
            try simp only [Act.put, List.setIfInBounds_toArray, List.set_cons_zero, List.set_cons_succ]
            refine wpAnyD_takeW 12 (v := ?_) (by kernel_rfl) rfl (by kernel_rfl) (by kernel_rfl) (fun _ _ _ h => h) (Or.inl ⟨by rfl, ?_⟩) ?_
            rotate_left
            · (intro wq hSq; (try dsimp only at hSq); go_simp; try with_reducible rfl)
            try simp only [Act.put, List.setIfInBounds_toArray, List.set_cons_zero, List.set_cons_succ]
            refine wpAnyD_takeW 13 (v := ?_) (by kernel_rfl) rfl (by kernel_rfl) (by kernel_rfl) (fun _ _ _ h => h) (Or.inl ⟨by rfl, ?_⟩) ?_
            rotate_left
            · (intro wq hSq; (try dsimp only at hSq); go_simp; try with_reducible rfl)
            try simp only [Act.put, List.setIfInBounds_toArray, List.set_cons_zero, List.set_cons_succ]
            refine wpAnyD_step 14 (by kernel_rfl) rfl rfl (fun K hK => ?_)
            obtain ⟨-, c1, c2, -, f1, f2⟩ := three_ref HNC.out.h0
            go_simp
            refine hK.out _ _ ?_
            clear hK K hHeld4 c1 c2 f1 f2
            refine wpAnyD_end (by kernel_rfl) ?_
            go_wp2_with fail
            go_roundw
            case rel => exact ⟨j + 1, by omega, by go_num, HTO2.out, _, by
              have h1 := HNC.out.setQ Y
              rw [← HYB.out, ← HYT.out] at h1
              rw [← HYP.out, take_succ' HP1.out]
              exact h1⟩
            case measure => simp [intOf]; omega
    · obtain rfl : k = n := by omega
      obtain rfl : ok = true := HOK.out.2 ⟨by have := HN.out; omega, by have := HN.out; omega, by rw [← HN.out]; exact hto.out⟩
      have h5 := HS0.out
      rw [HN.out, List.take_length] at h5
      have HF := Lib.hid h5
      clear h5 hto HS0
      go_wp2
      rw [HP.out]
      exact ⟨HF.out.bel, ⟨c, rfl, HF.out.so⟩⟩
theorem refNew_any (ps : List Nat) (pv : Value) (w : World) (hr : w.reads w.heap.size pv (ps.map u32V)) (hpb : ∀ p ∈ ps, p < 4294967296) (ok : Bool) (hok : ok = true ↔ SysP ps) :
    Calls Try.prog 35 #[pv] w (RefRet w ps ok) := by
  refine (refNew_so ps pv w hr hpb ok hok).mono ?_
  rintro e w' ⟨h1, h2⟩
  refine ⟨h1, ?_⟩
  cases ok with
  | false => exact h2
  | true => obtain ⟨c, h3, h4⟩ := h2; exact ⟨c, h3, h4.ref⟩
end Go.Proofs.Ytnjblppapmflhaa

/- Walks: the reference divides by the last prime. -/
namespace Go
section
variable {P : Program} {ops : Array Oper} {Q : Exit → Act → World → Prop}
/-- As wp_region_AE, with three edges. -/
theorem wp_region_AE3 {id : Nat} {a : Act} {w : World} (k e k2 e2 k3 e3 : Nat) {oe oe2 oe3 : Oper} (B : Nat) (S F : World → Prop) (late : Nat → Bool) (hm : P.follows .mixedOrders = true)
    (he : ops.toList[e]? = some oe) (hB : edgeB ops k e = true) (he2 : (withEdge ops k e).toList[e2]? = some oe2) (hB2 : edgeB (withEdge ops k e) k2 e2 = true)
    (he3 : (withEdge (withEdge ops k e) k2 e2).toList[e3]? = some oe3) (hB3 : edgeB (withEdge (withEdge ops k e) k2 e2) k3 e3 = true) (hl2 : Nat.blt e2 ops.size = true) (hl3 : Nat.blt e3 ops.size = true)
    (hQ : ∀ v c a w, Q (.panic c) (a.put oe.dst v) w → Q (.panic c) a w) (hQ2 : ∀ v c a w, Q (.panic c) (a.put oe2.dst v) w → Q (.panic c) a w) (hQ3 : ∀ v c a w, Q (.panic c) (a.put oe3.dst v) w → Q (.panic c) a w)
    (hw : waitsA (withEdge (withEdge (withEdge ops k e) k2 e2) k3 e3) late = true) (hF : Fact B S F) (hFw : F w.drew)
    (h : Fact B S F → wpAnyA P (withEdge (withEdge (withEdge ops k e) k2 e2) k3 e3) Q B S late (fun fuel listed a w => wpAny P .any (withEdge (withEdge (withEdge ops k e) k2 e2) k3 e3) Q fuel listed a w) ops.size (Array.replicate ops.size false) a F) : (Code.region id ops true).wp P Q a w := by
  have he' : ops[e]? = some oe := by simpa using he
  have he2' : (withEdge ops k e)[e2]? = some oe2 := by simpa using he2
  have he3' : (withEdge (withEdge ops k e) k2 e2)[e3]? = some oe3 := by simpa using he3
  have l1 : e < (Array.replicate ops.size false).size := by rw [Array.size_replicate]; exact (Array.getElem?_eq_some_iff.1 he').1
  have l2 : e2 < (Array.replicate ops.size false).size := by rw [Array.size_replicate]; simpa using hl2
  have l3 : e3 < (Array.replicate ops.size false).size := by rw [Array.size_replicate]; simpa using hl3
  exact wp_region_any hm (wpAny_edge he' hB hQ _ _ _ _ l1 (wpAny_edge he2' hB2 hQ2 _ _ _ _ l2 (wpAny_edge he3' hB3 hQ3 _ _ _ _ l3 (wpAny_of_A (waitsA_spec hw) _ _ _ F _ (h hF) hFw))))
end
end Go
namespace Go.Proofs.Ytnjblppapmflhaa
set_option linter.all false
open Go.RowKit Go.Shelf Go.WideNum PN
theorem wH {w w' : World} {g : Nat} {n : Bool} {s : ByteArray} (h : Hid (w.heap[g]? = some (.cells #[.bool n, .string s] 38))) (hb : Below w.heap.size w w') : Hid (w'.heap[g]? = some (.cells #[.bool n, .string s] 38)) := hold_heap h.out hb
theorem bH {a b c : World} (h : Hid (Below a.heap.size a b)) (k : Below b.heap.size b c) : Hid (Below a.heap.size a c) := below_via h.out k
theorem fF {v V : World} {S : World → Prop} (hS : ∀ W, Below v.heap.size v W → S W) (h : Below v.heap.size v V) : Fact v.heap.size S (fun W => Below V.heap.size V W) := fact_below h.size (fun W hb => hS W (below_via h hb))
theorem wide_box (W : World) (b : Bool) (s : ByteArray) : Below W.heap.size W (W.alloc (.cells #[.bool b, .string s] 38)) ∧ (W.alloc (.cells #[.bool b, .string s] 38)).heap[W.heap.size]? = some (.cells #[.bool b, .string s] 38) :=
  ⟨(Below.refl _ _).alloc (Nat.le_refl _) _, heap_alloc_new W _⟩
set_option maxRecDepth 100000 in
set_option maxHeartbeats 8000000 in
theorem refDivided_any (b : Nat) (ps rs : List Nat) (rv : Value) (D : Int) (hD : D.natAbs < 18446744073709551616) (w : World) (hs : RefAt w b ps) (hsys : SysP ps) (hr : w.reads w.heap.size rv (rs.map u32V)) (hrow : RowP ps rs) :
    Calls Try.prog 44 #[.pointer (some ⟨b, 0, none⟩), rv, .agg #[.bool (zN D), .string (zT D)]] w (RowRet w (resL (ps.take (ps.length - 1)) ((joinZ ps rs - D) / (lastP ps : Nat)))) := by
  obtain ⟨HPOST, hpost⟩ : ∃ R, R = RowRet w (resL (ps.take (ps.length - 1)) ((joinZ ps rs - D) / (lastP ps : Nat))) := ⟨_, rfl⟩
  rw [← hpost]
  have HP := Lib.hid hpost
  have hl := hsys.1
  obtain ⟨n, hn⟩ : ∃ n, ps.length = n + 1 := ⟨ps.length - 1, by omega⟩
  have hn25 : n < 25 := by have := hsys.2.1; omega
  have HN := Lib.hid hn
  have hlast := last_get hl
  rw [hn, Nat.add_sub_cancel] at hlast
  obtain ⟨q1, q2, q3, q4⟩ := hsys.last
  obtain ⟨p, hp⟩ : ∃ p, p = lastP ps := ⟨_, rfl⟩
  rw [← hp] at hlast q2 q3 q4
  obtain ⟨J, hJ⟩ : ∃ z, z = joinZ ps rs := ⟨_, rfl⟩
  obtain ⟨K, hK⟩ : ∃ K : Nat, K = 4294967296 ^ 25 := ⟨_, rfl⟩
  have hJa : J.natAbs < K := by
    have h1 := joinZ_abs (rs := rs) hsys.sep
    have h2 := prodL_le25 hsys.sep hsys.2.1
    rw [hJ]; omega
  have hKb : 18446744073709551616 ≤ K := by rw [hK]; decide
  have hin : ∀ x : Int, x.natAbs < K * 4294967296 → InR x := fun x hx => by
    refine inR_of (k := 26) ?_ (by omega)
    rw [hK] at hx
    exact hx
  obtain ⟨Y, hY⟩ : ∃ z, z = J - D := ⟨_, rfl⟩
  obtain ⟨G, hG⟩ : ∃ z, z = Y / (p : Int) := ⟨_, rfl⟩
  have iJ : InR J := hin _ (by omega)
  have iD : InR D := hin _ (by omega)
  have iY : InR Y := hin _ (by omega)
  have iQ : InR (p : Int) := hin _ (by omega)
  have iG : InR G := by have := ediv_abs Y p (by omega); rw [hG]; unfold InR at *; omega
  obtain ⟨tk, htk⟩ : ∃ l, l = ps.take n := ⟨_, rfl⟩
  have hpost2 : RowRet w (resL (ps.take (ps.length - 1)) ((joinZ ps rs - D) / (lastP ps : Nat))) = RowRet w (resL tk G) := by
    rw [htk, hG, hY, hJ, hp, hn]; rfl
  rw [hpost2] at HP
  obtain ⟨db, hdb⟩ : ∃ z, z = zN D := ⟨_, rfl⟩
  obtain ⟨dt, hdt⟩ : ∃ z, z = zT D := ⟨_, rfl⟩
  obtain ⟨jb, hjb⟩ : ∃ z, z = zN J := ⟨_, rfl⟩
  obtain ⟨jt, hjt⟩ : ∃ z, z = zT J := ⟨_, rfl⟩
  obtain ⟨yb, hyb⟩ : ∃ z, z = zN Y := ⟨_, rfl⟩
  obtain ⟨yt, hyt⟩ : ∃ z, z = zT Y := ⟨_, rfl⟩
  obtain ⟨pb, hpb⟩ : ∃ z, z = zN (p : Int) := ⟨_, rfl⟩
  obtain ⟨pt, hpt⟩ : ∃ z, z = zT (p : Int) := ⟨_, rfl⟩
  obtain ⟨gb, hgb⟩ : ∃ z, z = zN G := ⟨_, rfl⟩
  obtain ⟨gt, hgt⟩ : ∃ z, z = zT G := ⟨_, rfl⟩
  obtain ⟨rmb, hrmb⟩ : ∃ z, z = zN (Y % (p : Int)) := ⟨_, rfl⟩
  obtain ⟨rmt, hrmt⟩ : ∃ z, z = zT (Y % (p : Int)) := ⟨_, rfl⟩
  have HJ : Hid (∀ W v, RefAt W b ps → W.reads W.heap.size v (rs.map u32V) → Calls Try.prog 31 #[.pointer (some ⟨b, 0, none⟩), v] W fun e w' => e = .returned (.tuple #[.agg #[.bool jb, .string jt], .int .i64 0]) ∧ Below W.heap.size W w') := fun W v h hv => by
    have := refJoin_any b ps rs v W h hsys hv true ⟨fun _ => hrow, fun _ => rfl⟩
    rw [if_pos rfl, if_pos rfl] at this
    rw [hjb, hjt, hJ]; exact this
  have HSUB : Hid (∀ W : World, Calls Try.prog 29 #[.agg #[.bool jb, .string jt], .agg #[.bool db, .string dt]] W fun e w' => e = .returned (.tuple #[.agg #[.bool yb, .string yt], .int .i64 0]) ∧ Below W.heap.size W w') := fun W => by
    rw [hjb, hjt, hdb, hdt, hyb, hyt, hY]; exact refSub_z J D iJ iD (by rw [← hY]; exact iY) W
  have HOF : Hid (∀ W : World, Calls Try.prog 24 #[.int .i64 (p : Int)] W fun e w' => e = .returned (.agg #[.bool pb, .string pt]) ∧ Below W.heap.size W w') := fun W => by rw [hpb, hpt]; exact refOf_z p (by omega) (by omega) W
  have HDIV : Hid (∀ W : World, Calls Try.prog 25 #[.agg #[.bool yb, .string yt], .agg #[.bool pb, .string pt]] W fun e w' => e = .returned (.tuple #[.agg #[.bool gb, .string gt], .agg #[.bool rmb, .string rmt], .int .i64 0]) ∧ Below W.heap.size W w') := fun W => by
    rw [hyb, hyt, hpb, hpt, hgb, hgt, hrmb, hrmt, hG]; exact refDiv_z Y p iY iQ (by omega) W
  have HSP : Hid (∀ W c, RefPr W c tk → Calls Try.prog 30 #[.pointer (some ⟨c, 0, none⟩), .agg #[.bool gb, .string gt]] W (RowE W (resL tk G) 0)) := fun W c h => by
    have := refSplit_any c tk gb gt (by rw [hgt]; exact z_size iG) W h (fun x hx => by
      rw [htk] at hx
      obtain ⟨a1, a2, a3⟩ := hsys.sep.mem (List.mem_of_mem_take hx)
      exact ⟨a1.pos, by omega⟩) (by rw [htk, List.length_take]; omega)
    rwa [hgb, hgt, split_z iG, ← hgb, ← hgt] at this
  obtain ⟨lv, hl2, hl3⟩ := id hs
  have hpm := hl3.le_map
  obtain ⟨pa, pc, rfl, hpc, -, hps⟩ := reads_u32 hl3
  rw [hn] at hl2 hpc hpm hl3
  obtain ⟨b1, o1, rfl, hbl, hcl⟩ := hps n p hlast
  have hal := lt_of_heap hl2
  have HCL : Hid (∀ W, Below w.heap.size w W → W.cell? ⟨b, 0, none⟩ = some (.slice (some ⟨b1, o1, none⟩) (n + 1) pc) ∧ W.cell? ⟨b1, o1 + n, none⟩ = some (.int .u32 (p : Int))) := fun W hb => by
    obtain ⟨y2, -⟩ := three_ref ((hb.block _ hal).trans hl2)
    exact ⟨y2, (hb.cell (p := ⟨b1, o1 + n, none⟩) hbl).trans hcl⟩
  have HTK : Hid (∀ W, Below w.heap.size w W → W.reads W.heap.size (.slice (some ⟨b1, o1, none⟩) n pc) (tk.map u32V)) := fun W hb => by
    have h1 := hl3.take n (by omega)
    rw [← List.map_take, ← htk] at h1
    exact (h1.below hb).mono hb.size
  have w64p : IntKind.i64.wrap (p : Int) = (p : Int) := IntWalk.i64_in _ (by omega)
  have e2 : ((n + 1 : Nat) : Int) - 1 = (n : Int) := by omega
  have e7 : (n : Int) + 1 - 1 = (n : Int) := by omega
  have e3 : (n : Int) < ((n + 1 : Nat) : Int) := by omega
  have e4 : (n : Int) < (n : Int) + 1 := by omega
  obtain ⟨B0, P0⟩ := wide_box w db dt
  have S0 := Lib.hid (hs.below B0)
  have R0 := Lib.hid ((hr.below B0).mono B0.size)
  have hrm := hr.le_map
  obtain ⟨ra, rc, rfl, -⟩ := reads_u32 hr
  obtain ⟨m, hm⟩ : ∃ m, m = rs.length := ⟨_, rfl⟩
  rw [← hm] at hrm R0 ⊢
  rw [← hdb, ← hdt]
  clear hpost hs hr hrow hsys hl hn hlast q1 q2 q4 hp hJ hK hJa hKb hin hY hG iJ iD iY iQ iG htk hpost2 hdb hdt hjb hjt hyb hyt hpb hpt hgb hgt hrmb hrmt hl2 hl3 hbl hcl hps hm hD
  go_enter Try.func44, Try.ntmps44
  go_upto_region 1 with (fail)
  generalize w.alloc (.cells #[.bool db, .string dt] 38) = w0 at B0 P0 S0 R0 ⊢
  have B := Lib.hid B0
  have DD := Lib.hid P0
  obtain ⟨pD, hpD⟩ : ∃ z, z = w.heap.size := ⟨_, rfl⟩
  have HPD := Lib.hid hpD
  rw [← hpD] at DD ⊢
  clear B0 P0 hpD
  go_wp2_with fail
  (with_reducible refine (HJ.out _ _ S0.out R0.out).mono ?_)
  rintro e v1 ⟨rfl, hb⟩
  replace B := bH B hb
  replace DD := wH DD hb
  clear hb S0 R0
  go_upto_region 2 with (fail)
  obtain ⟨hb, hg⟩ := wide_box v1 jb jt
  obtain ⟨pJ, hpJ⟩ : ∃ z, z = v1.heap.size := ⟨_, rfl⟩
  rw [← hpJ] at hg ⊢
  generalize v1.alloc (.cells #[.bool jb, .string jt] 38) = v2 at hb hg ⊢
  replace B := bH B hb
  replace DD := wH DD hb
  have JJ := Lib.hid hg
  clear hb hg hpJ
  obtain ⟨x0, x1, -⟩ := wide_cells DD.out
  obtain ⟨y0, y1, -⟩ := wide_cells JJ.out
  obtain ⟨c0, c1⟩ := HCL.out _ B.out
  go_wp2_with fail
  (with_reducible refine (HSUB.out _).mono ?_)
  rintro e v3 ⟨rfl, hb⟩
  replace B := bH B hb
  clear hb x0 x1 y0 y1 c0 c1 DD JJ
  go_upto_region 4 with (fail)
  obtain ⟨hb, hg⟩ := wide_box v3 yb yt
  obtain ⟨pY, hpY⟩ : ∃ z, z = v3.heap.size := ⟨_, rfl⟩
  rw [← hpY] at hg ⊢
  generalize v3.alloc (.cells #[.bool yb, .string yt] 38) = v4 at hb hg ⊢
  replace B := bH B hb
  have YY := Lib.hid hg
  clear hb hg hpY
  have hS0 : ∀ W, Below v4.heap.size v4 W → W.cell? ⟨pY, 0, none⟩ = some (.bool yb) ∧ W.cell? ⟨pY, 1, none⟩ = some (.string yt) ∧ W.cell? ⟨b, 0, none⟩ = some (.slice (some ⟨b1, o1, none⟩) (n + 1) pc) ∧ W.cell? ⟨b1, o1 + n, none⟩ = some (.int .u32 (p : Int)) := fun W hb => by
    obtain ⟨a, b, -⟩ := wide_cells (hold_heap (w := v4) YY.out hb)
    obtain ⟨c, d⟩ := HCL.out W (below_via B.out hb)
    exact ⟨a, b, c, d⟩
  refine wp_region_AE3 17 14 17 13 18 14 v4.heap.size (fun w' => w'.cell? ⟨pY, 0, none⟩ = some (.bool yb) ∧ w'.cell? ⟨pY, 1, none⟩ = some (.string yt) ∧ w'.cell? ⟨b, 0, none⟩ = some (.slice (some ⟨b1, o1, none⟩) (n + 1) pc) ∧ w'.cell? ⟨b1, o1 + n, none⟩ = some (.int .u32 (p : Int))) (fun W => Below v4.heap.size v4 W) (fun j => decide (17 ≤ j)) (by kernel_rfl) rfl (by kernel_rfl) rfl (by kernel_rfl) rfl (by kernel_rfl) (by kernel_rfl) (by kernel_rfl) (fun _ _ _ _ h => h) (fun _ _ _ _ h => h) (fun _ _ _ _ h => h) (by kernel_rfl) (fact_below (Nat.le_refl _) hS0) ((Below.refl _ _).drew) (fun hF => ?_)
  refine wpAnyA_alloc2 15 16 (.cells #[.bool false, .string ⟨#[]⟩] 38) (.cells #[.bool false, .string ⟨#[]⟩] 38) (by kernel_rfl) (by kernel_rfl) (by decide) rfl rfl rfl rfl (by kernel_rfl) (by kernel_rfl) (by kernel_rfl) (by kernel_rfl) (by kernel_rfl) (fun _ => rfl) (fun _ => rfl) (fun _ _ => rfl) (fun _ _ => rfl) (fun _ _ _ _ h => h) (fun _ _ _ _ h => h) hF ?_
  refine wpAnyA_take 0 (v := ?_) (by kernel_rfl) rfl rfl (by kernel_rfl) (by kernel_rfl) (fun _ _ _ h => h) (Or.inl ⟨by rfl, ?_⟩) (by assumption) ?_
  rotate_left
  · (intro wq hSq; (try dsimp only at hSq); go_simp; try with_reducible rfl)
  try simp only [Act.put, List.setIfInBounds_toArray, List.set_cons_zero, List.set_cons_succ]
  refine wpAnyA_take 1 (v := ?_) (by kernel_rfl) rfl rfl (by kernel_rfl) (by kernel_rfl) (fun _ _ _ h => h) (Or.inl ⟨by rfl, ?_⟩) (by assumption) ?_
  rotate_left
  · (intro wq hSq; (try dsimp only at hSq); go_simp; try with_reducible rfl)
  try simp only [Act.put, List.setIfInBounds_toArray, List.set_cons_zero, List.set_cons_succ]
  refine wpAnyA_take 2 (v := ?_) (by kernel_rfl) rfl rfl (by kernel_rfl) (by kernel_rfl) (fun _ _ _ h => h) (Or.inl ⟨by rfl, ?_⟩) (by assumption) ?_
  rotate_left
  · (intro wq hSq; (try dsimp only at hSq); go_simp; try with_reducible rfl)
  try simp only [Act.put, List.setIfInBounds_toArray, List.set_cons_zero, List.set_cons_succ]
  refine wpAnyA_take 3 (v := ?_) (by kernel_rfl) rfl rfl (by kernel_rfl) (by kernel_rfl) (fun _ _ _ h => h) (Or.inl ⟨by rfl, ?_⟩) (by assumption) ?_
  rotate_left
  · (intro wq hSq; (try dsimp only at hSq); go_simp; try with_reducible rfl)
  try simp only [Act.put, List.setIfInBounds_toArray, List.set_cons_zero, List.set_cons_succ]
  refine wpAnyA_take 4 (v := ?_) (by kernel_rfl) rfl rfl (by kernel_rfl) (by kernel_rfl) (fun _ _ _ h => h) (Or.inl ⟨by rfl, ?_⟩) (by assumption) ?_
  rotate_left
  · (intro wq hSq; (try dsimp only at hSq); go_simp; try with_reducible rfl)
  try simp only [Act.put, List.setIfInBounds_toArray, List.set_cons_zero, List.set_cons_succ]
  refine wpAnyA_take 5 (v := ?_) (by kernel_rfl) rfl rfl (by kernel_rfl) (by kernel_rfl) (fun _ _ _ h => h) (Or.inl ⟨by rfl, ?_⟩) (by assumption) ?_
  rotate_left
  · (intro wq hSq; (try dsimp only at hSq); go_simp; try with_reducible rfl)
  try simp only [Act.put, List.setIfInBounds_toArray, List.set_cons_zero, List.set_cons_succ]
  refine wpAnyA_take 6 (v := ?_) (by kernel_rfl) rfl rfl (by kernel_rfl) (by kernel_rfl) (fun _ _ _ h => h) (Or.inl ⟨by rfl, ?_⟩) (by assumption) ?_
  rotate_left
  · (intro wq hSq; (try dsimp only at hSq); go_simp; try with_reducible rfl)
  try simp only [Act.put, List.setIfInBounds_toArray, List.set_cons_zero, List.set_cons_succ]
  refine wpAnyA_take 7 (v := ?_) (by kernel_rfl) rfl rfl (by kernel_rfl) (by kernel_rfl) (fun _ _ _ h => h) (Or.inl ⟨by rfl, ?_⟩) (by assumption) ?_
  rotate_left
  · (intro wq hSq; (try dsimp only at hSq); go_simp; try with_reducible rfl)
  try simp only [Act.put, List.setIfInBounds_toArray, List.set_cons_zero, List.set_cons_succ]
  refine wpAnyA_take 8 (v := ?_) (by kernel_rfl) rfl rfl (by kernel_rfl) (by kernel_rfl) (fun _ _ _ h => h) (Or.inl ⟨by rfl, ?_⟩) (by assumption) ?_
  rotate_left
  · (intro wq hSq; (try dsimp only at hSq); go_simp; try with_reducible rfl)
  try simp only [Act.put, List.setIfInBounds_toArray, List.set_cons_zero, List.set_cons_succ]
  refine wpAnyA_step 9 (by kernel_rfl) rfl rfl (fun wq (hFq : Below v4.heap.size v4 wq) K hK => ?_)
  go_simp
  (with_reducible refine (HOF.out _).mono ?_)
  rintro e v5 ⟨rfl, hbq⟩
  have hdv5 : Below v4.heap.size v4 v5 := below_via hFq hbq
  have hFv5 := fF hS0 hdv5
  refine hK.out _ _ hbq _ hFv5 (Below.refl _ _) ?_
  clear hK K hFq hbq
  try simp only [Act.put, List.setIfInBounds_toArray, List.set_cons_zero, List.set_cons_succ]
  refine wpAnyA_step 10 (by kernel_rfl) rfl rfl (fun wq (hFq : Below v5.heap.size v5 wq) K hK => ?_)
  go_simp
  (with_reducible refine (HDIV.out _).mono ?_)
  rintro e v6 ⟨rfl, hbq⟩
  have hdv6 : Below v4.heap.size v4 v6 := below_via hdv5 (below_via hFq hbq)
  have hFv6 := fF hS0 hdv6
  refine hK.out _ _ hbq _ hFv6 (Below.refl _ _) ?_
  clear hK K hFq hbq
  try simp only [Act.put, List.setIfInBounds_toArray, List.set_cons_zero, List.set_cons_succ]
  refine wpAnyA_take 11 (v := ?_) (by kernel_rfl) rfl rfl (by kernel_rfl) (by kernel_rfl) (fun _ _ _ h => h) (Or.inl ⟨by rfl, ?_⟩) (by assumption) ?_
  rotate_left
  · (intro wq hSq; (try dsimp only at hSq); go_simp; try with_reducible rfl)
  try simp only [Act.put, List.setIfInBounds_toArray, List.set_cons_zero, List.set_cons_succ]
  refine wpAnyA_take 12 (v := ?_) (by kernel_rfl) rfl rfl (by kernel_rfl) (by kernel_rfl) (fun _ _ _ h => h) (Or.inl ⟨by rfl, ?_⟩) (by assumption) ?_
  rotate_left
  · (intro wq hSq; (try dsimp only at hSq); go_simp; try with_reducible rfl)
  try simp only [Act.put, List.setIfInBounds_toArray, List.set_cons_zero, List.set_cons_succ]
  refine wpAnyA_take 13 (v := ?_) (by kernel_rfl) rfl rfl (by kernel_rfl) (by kernel_rfl) (fun _ _ _ h => h) (Or.inl ⟨by rfl, ?_⟩) (by assumption) ?_
  rotate_left
  · (intro wq hSq; (try dsimp only at hSq); go_simp; try with_reducible rfl)
  try simp only [Act.put, List.setIfInBounds_toArray, List.set_cons_zero, List.set_cons_succ]
  refine wpAnyA_take 14 (v := ?_) (by kernel_rfl) rfl rfl (by kernel_rfl) (by kernel_rfl) (fun _ _ _ h => h) (Or.inl ⟨by rfl, ?_⟩) (by assumption) ?_
  rotate_left
  · (intro wq hSq; (try dsimp only at hSq); go_simp; try with_reducible rfl)
  try simp only [Act.put, List.setIfInBounds_toArray, List.set_cons_zero, List.set_cons_succ]
  refine wpAnyA_end (by kernel_rfl) (fun x0 (hFx : Below v6.heap.size v6 x0) => ?_)
  intro pG pRM hq hqb hne hq7 hq8
  have hd0 := below_via hdv6 hFx
  clear hFv6 hFv5 hF hS0 hdv6 hdv5 hFx
  refine wpAny_of_D (S := fun _ => True) (late := fun _ => true) _ _ _ _ ?_
  obtain ⟨e0, e1, ef⟩ := wide_cells hq7
  have ef0 := ef 0
  have ef1 := ef 1
  refine wpAnyD_step 17 (by kernel_rfl) rfl rfl (fun K hK => ?_)
  simp only [moreAfter]
  go_simp
  refine hK.out _ _ ?_
  clear hK K e0 e1 ef ef0 ef1
  try simp only [Act.put, List.setIfInBounds_toArray, List.set_cons_zero, List.set_cons_succ]
  have m0 := wide_set hq7 gb gt
  replace hq8 := (two_other (W := x0) (p := pG) (.bool gb) (.string gt) pRM (Ne.symm hne)).trans hq8
  replace hd0 : Below v4.heap.size v4 ((x0.setCell ⟨pG, 0, none⟩ (.bool gb)).setCell ⟨pG, 1, none⟩ (.string gt)) := (hd0.setCell hq _).setCell hq _
  clear hq7
  generalize (x0.setCell ⟨pG, 0, none⟩ (.bool gb)).setCell ⟨pG, 1, none⟩ (.string gt) = x1 at m0 hq8 hd0 ⊢
  obtain ⟨e0, e1, ef⟩ := wide_cells hq8
  have ef0 := ef 0
  have ef1 := ef 1
  refine wpAnyD_step 18 (by kernel_rfl) rfl rfl (fun K hK => ?_)
  simp only [moreAfter]
  go_simp
  refine hK.out _ _ ?_
  clear hK K e0 e1 ef ef0 ef1
  try simp only [Act.put, List.setIfInBounds_toArray, List.set_cons_zero, List.set_cons_succ]
  replace m0 := (two_other (W := x1) (p := pRM) (.bool rmb) (.string rmt) pG hne).trans m0
  replace hd0 : Below v4.heap.size v4 ((x1.setCell ⟨pRM, 0, none⟩ (.bool rmb)).setCell ⟨pRM, 1, none⟩ (.string rmt)) := (hd0.setCell hqb _).setCell hqb _
  clear hq8
  generalize (x1.setCell ⟨pRM, 0, none⟩ (.bool rmb)).setCell ⟨pRM, 1, none⟩ (.string rmt) = v7 at m0 hd0 ⊢
  refine wpAnyD_step 19 (by kernel_rfl) rfl rfl (fun K hK => ?_)
  go_simp
  refine hK.out _ _ ?_
  clear hK K
  try simp only [Act.put, List.setIfInBounds_toArray, List.set_cons_zero, List.set_cons_succ]
  refine wpAnyD_end (by kernel_rfl) ?_
  replace B := bH B hd0
  have GG := Lib.hid m0
  clear hd0 m0 hq hqb hne YY
  obtain ⟨c0, c1⟩ := HCL.out _ B.out
  have i1 : n ≤ pc := by omega
  have i2 : (n : Int) ≤ (pc : Int) := by omega
  have i3 : (0 : Int) ≤ (n : Int) := by omega
  go_upto_region 6 with (fail)
  have hb : Below v7.heap.size v7 (v7.alloc (.cells #[.slice (some ⟨b1, o1, none⟩) n pc, .bool false, .string ⟨#[]⟩] 64)) := (Below.refl _ _).alloc (Nat.le_refl _) _
  have hg : (v7.alloc (.cells #[.slice (some ⟨b1, o1, none⟩) n pc, .bool false, .string ⟨#[]⟩] 64)).heap[v7.heap.size]? = some (.cells #[.slice (some ⟨b1, o1, none⟩) n pc, .bool false, .string ⟨#[]⟩] 64) := heap_alloc_new v7 _
  obtain ⟨c, hc⟩ : ∃ z, z = v7.heap.size := ⟨_, rfl⟩
  rw [← hc] at hg ⊢
  generalize v7.alloc (.cells #[.slice (some ⟨b1, o1, none⟩) n pc, .bool false, .string ⟨#[]⟩] 64) = v8 at hb hg ⊢
  replace B := bH B hb
  replace GG := wH GG hb
  have HPR : Hid (RefPr v8 c tk) := ⟨_, _, _, hg, HTK.out _ B.out⟩
  obtain ⟨x0, x1, -⟩ := wide_cells GG.out
  clear hb hg hc c0 c1 i1 i2 i3
  go_wp2_with fail
  (with_reducible refine (HSP.out _ _ HPR.out).mono ?_)
  rintro e v9 ⟨v, rfl, ho, hb⟩
  have HO := Lib.hid (ho.mono B.out.size)
  replace B := bH B hb
  obtain ⟨va, vc, rfl, -⟩ := ho.at_
  clear ho hb x0 x1
  go_wp2
  rw [HP.out]
  exact ⟨_, rfl, HO.out, B.out⟩
end Go.Proofs.Ytnjblppapmflhaa
