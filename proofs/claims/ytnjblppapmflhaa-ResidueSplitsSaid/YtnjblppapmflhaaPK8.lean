/- Helpers and walks, in one text. -/
import Derived.Test.YtnjblppapmflhaaPK7
import Derived.ProofKit
import Derived.OpenShut
import Derived.ShutString
import Derived.ChangeOld
import Derived.SliceStrings
import Derived.Deep.Matrix
import Derived.Test.YtnjblppapmflhaaRows
import Derived.WideShapes
/- Walks: the reference's division by the last prime. -/
namespace Go.Proofs.Ytnjblppapmflhaa
set_option linter.all false
open Go.RowKit Go.Shelf Go.WideNum PN
theorem refRow_b (b : Nat) (ps rs : List Nat) (rv : Value) (w : World) (hs : RefAt w b ps) (hr : w.reads w.heap.size rv (rs.map u32V)) (ok : Bool) (hok : ok = true ↔ RowP ps rs) :
    Calls Try.prog 42 #[.pointer (some ⟨b, 0, none⟩), rv] w fun e w' => e = .returned (.bool ok) ∧ Below w.heap.size w w' := by
  refine (refRow_any b ps rs rv w hs hr ok hok).mono ?_
  rintro e w' ⟨he, n, rfl⟩
  exact ⟨he, below_drewN (Below.refl _ _) n⟩
/-- What division by the last prime reads. -/
theorem ref_last {w : World} {b : Nat} {ps rs : List Nat} {rv : Value} (hs : RefAt w b ps) (hsys : SysP ps) (hr : w.reads w.heap.size rv (rs.map u32V)) (hrow : RowP ps rs) (m : Nat) (hm : ps.length = m + 1) :
    ∃ bp op pc br or rc, rv = .slice (some ⟨br, or, none⟩) (m + 1) rc ∧ m + 1 ≤ pc ∧ m + 1 ≤ rc ∧ pc ≤ maxLen ∧ rc ≤ maxLen ∧ ∀ W, Below w.heap.size w W → W.cell? ⟨b, 0, none⟩ = some (.slice (some ⟨bp, op, none⟩) (m + 1) pc) ∧ W.cell? ⟨bp, op + m, none⟩ = some (.int .u32 (lastP ps : Int)) ∧ W.cell? ⟨br, or + m, none⟩ = some (.int .u32 (lastP rs : Int)) := by
  have hn1 := hsys.1
  have hlen := hrow.1
  have hgr := last_get (ps := rs) (by rw [hlen]; exact hn1)
  have hgp := last_get hn1
  obtain ⟨lv, h1, h2⟩ := hs
  have hbw := lt_of_heap h1
  obtain ⟨pa, pc, rfl, hpc, hpm, hps⟩ := reads_u32 h2
  obtain ⟨ra, rc, rfl, hrc, hrm, hrs⟩ := reads_u32 hr
  obtain ⟨bp, op, rfl, hbpl, dq⟩ := hps _ _ hgp
  obtain ⟨br, or, rfl, hbrl, dr⟩ := hrs _ _ hgr
  rw [hlen, hm] at dr hrc
  rw [hm] at dq hpc h1
  rw [show m + 1 - 1 = m by omega] at dq dr
  refine ⟨bp, op, pc, br, or, rc, by rw [hlen, hm], hpc, hrc, hpm, hrm, fun W hb => ?_⟩
  obtain ⟨c0, -⟩ := three_ref ((hb.block _ hbw).trans h1)
  exact ⟨c0, (hb.cell (p := ⟨bp, op + m, none⟩) hbpl).trans dq, (hb.cell (p := ⟨br, or + m, none⟩) hbrl).trans dr⟩
set_option maxHeartbeats 4000000 in
theorem refDrop_any (b : Nat) (ps rs : List Nat) (rv : Value) (w : World) (hs : RefAt w b ps) (hsys : SysP ps) (hr : w.reads w.heap.size rv (rs.map u32V)) (ok : Bool) (hok : ok = true ↔ RowP ps rs) :
    Calls Try.prog 13 #[.pointer (some ⟨b, 0, none⟩), rv] w (DropE w (dropF ps rs ok).1 (dropF ps rs ok).2.1 (dropF ps rs ok).2.2) := by
  obtain ⟨HPOST, hpost⟩ : ∃ R, R = DropE w (dropF ps rs ok).1 (dropF ps rs ok).2.1 (dropF ps rs ok).2.2 := ⟨_, rfl⟩
  rw [← hpost]
  have HP := Lib.hid hpost
  have HROW := Lib.hid (refRow_b b ps rs rv w hs hr ok hok)
  cases ok with
  | false =>
    obtain ⟨ra, rc, rfl, -⟩ := reads_u32 hr
    clear hpost hs hr hok
    go_enter Try.func13, Try.ntmps13
    go_wp2_with fail
    (with_reducible refine (HROW.out).mono ?_)
    rintro e w1 ⟨rfl, hb1⟩
    go_wp2
    rw [HP.out]
    exact bodyPost_ret (v := .tuple #[.slice none 0 0, .int .i64 0, .int .i64 2]) (by simp [results, Try.results13, go_sem]) rfl ⟨_, rfl, World.owns_nil _ _ _ _, hb1⟩
  | true =>
    have hrow := hok.1 rfl
    have hn1 := hsys.1
    have hl25 := hsys.2.1
    obtain ⟨m, hm⟩ : ∃ m, ps.length = m + 1 := ⟨ps.length - 1, by omega⟩
    obtain ⟨q1, q2, q3, q4⟩ := hsys.last
    have hrl := hrow.last hn1
    obtain ⟨bp, op, pc, br, or, rc, rfl, i1, i2, i3, i4, hcl⟩ := ref_last hs hsys hr hrow m hm
    have HCL := Lib.hid hcl
    have HS := Lib.hid hs
    have HR := Lib.hid hr
    have HM := Lib.hid hm
    have hm25 : m ≤ 25 := by omega
    have t2 : ((m + 1 : Nat) : Int) - 1 = (m : Int) := by omega
    have t5 : (m : Int) + 1 - 1 = (m : Int) := by omega
    have t3 : (m : Int) < ((m + 1 : Nat) : Int) := by omega
    have t4 : (m : Int) < (m : Int) + 1 := by omega
    by_cases h1 : m = 0
    · subst h1
      have : dropF ps rs true = ([], 0, 9) := by unfold dropF; rw [if_pos rfl, if_pos hm]
      rw [this] at HP
      clear hpost hs hr hok hrow hsys hm hcl hrl q1 q2 q3 q4 this hn1
      go_enter Try.func13, Try.ntmps13
      go_wp2_with fail
      (with_reducible refine (HROW.out).mono ?_)
      rintro e w1 ⟨rfl, hb1⟩
      go_wp2
      rw [HP.out]
      exact bodyPost_ret (v := .tuple #[.slice none 0 0, .int .i64 0, .int .i64 9]) (by simp [results, Try.results13, go_sem]) rfl ⟨_, rfl, World.owns_nil _ _ _ _, hb1⟩
    · have t1 : ((m : Int) == 0) = false := by rw [beq_eq_false_iff_ne]; omega
      obtain ⟨d, hd⟩ : ∃ d, d = dropD ps rs := ⟨_, rfl⟩
      have hbal := fun W => Balanced01_in (lastP rs) (lastP ps) hrl (by omega) q3 W
      have hda := balI_abs hrl
      change ∀ W, Calls Try.prog _ _ W (I64Ok (dropD ps rs) W) at hbal
      change -((lastP ps : Nat) : Int) < dropD ps rs ∧ dropD ps rs < (lastP ps : Nat) ∧ _ at hda
      rw [← hd] at hbal hda
      have HOF : Hid (∀ W : World, Calls Try.prog 24 #[.int .i64 d] W fun e w' => e = .returned (.agg #[.bool (zN d), .string (zT d)]) ∧ Below W.heap.size W w') := fun W => refOf_z d (by omega) (by omega) W
      have HDV : Hid (∀ W v, RefAt W b ps → W.reads W.heap.size v (rs.map u32V) → Calls Try.prog 44 #[.pointer (some ⟨b, 0, none⟩), v, .agg #[.bool (zN d), .string (zT d)]] W (RowRet W (resL (ps.take (ps.length - 1)) ((joinZ ps rs - d) / (lastP ps : Nat))))) := fun W v h hv => refDivided_any b ps rs v d (by omega) W h hsys hv hrow
      have hf : dropF ps rs true = (resL (ps.take (ps.length - 1)) ((joinZ ps rs - d) / (lastP ps : Nat)), d, 0) := by
        unfold dropF
        rw [if_pos rfl, if_neg (by omega), hd]
      obtain ⟨L, hL⟩ : ∃ L, L = resL (ps.take (ps.length - 1)) ((joinZ ps rs - d) / (lastP ps : Nat)) := ⟨_, rfl⟩
      rw [← hL] at hf HDV
      rw [hf] at HP
      obtain ⟨db, hdb⟩ : ∃ z, z = zN d := ⟨_, rfl⟩
      obtain ⟨dt, hdt⟩ : ∃ z, z = zT d := ⟨_, rfl⟩
      rw [← hdb, ← hdt] at HOF HDV
      have HBAL := Lib.hid hbal
      obtain ⟨x, hx⟩ : ∃ x, x = lastP rs := ⟨_, rfl⟩
      obtain ⟨q, hq⟩ : ∃ x, x = lastP ps := ⟨_, rfl⟩
      rw [← hx] at HCL HBAL
      rw [← hq] at HCL HBAL
      clear hpost hs hr hok hrow hsys hm hcl hrl q1 q2 q3 q4 hn1 hbal hda hf hL hdb hdt hx hq hd h1
      go_enter Try.func13, Try.ntmps13
      go_wp2_with fail
      (with_reducible refine (HROW.out).mono ?_)
      rintro e w1 ⟨rfl, hb1⟩
      have B1 := Lib.hid hb1
      have HCL1 : Hid (∀ W, Below w1.heap.size w1 W → W.cell? ⟨b, 0, none⟩ = some (.slice (some ⟨bp, op, none⟩) (m + 1) pc) ∧ W.cell? ⟨bp, op + m, none⟩ = some (.int .u32 (q : Int)) ∧ W.cell? ⟨br, or + m, none⟩ = some (.int .u32 (x : Int))) := fun W hb => HCL.out W (below_via B1.out hb)
      obtain ⟨c0, dq, dr⟩ := HCL1.out w1 (Below.refl _ _)
      clear hb1
      go_wp2_with fail
      refine wp_region_late (fun w' => w'.cell? ⟨b, 0, none⟩ = some (.slice (some ⟨bp, op, none⟩) (m + 1) pc) ∧ w'.cell? ⟨bp, op + m, none⟩ = some (.int .u32 (q : Int)) ∧ w'.cell? ⟨br, or + m, none⟩ = some (.int .u32 (x : Int))) (fun _ => false) (by kernel_rfl) ⟨c0, dq, dr⟩ (fun hHeld => ?_)
      refine wpAnyD_take 0 (v := ?_) (by kernel_rfl) (by kernel_rfl) rfl (by kernel_rfl) (by kernel_rfl) (fun _ _ _ h => h) (Or.inl ⟨by rfl, ?_⟩) (by assumption) ?_
      rotate_left
      · (intro wq hSq; (try dsimp only at hSq); go_simp; try with_reducible rfl)
      try simp only [Act.put, List.setIfInBounds_toArray, List.set_cons_zero, List.set_cons_succ]
      refine wpAnyD_take 1 (v := ?_) (by kernel_rfl) (by kernel_rfl) rfl (by kernel_rfl) (by kernel_rfl) (fun _ _ _ h => h) (Or.inl ⟨by rfl, ?_⟩) (by assumption) ?_
      rotate_left
      · (intro wq hSq; (try dsimp only at hSq); go_simp; try with_reducible rfl)
      try simp only [Act.put, List.setIfInBounds_toArray, List.set_cons_zero, List.set_cons_succ]
      refine wpAnyD_take 2 (v := ?_) (by kernel_rfl) (by kernel_rfl) rfl (by kernel_rfl) (by kernel_rfl) (fun _ _ _ h => h) (Or.inl ⟨by rfl, ?_⟩) (by assumption) ?_
      rotate_left
      · (intro wq hSq; (try dsimp only at hSq); go_simp; try with_reducible rfl)
      try simp only [Act.put, List.setIfInBounds_toArray, List.set_cons_zero, List.set_cons_succ]
      refine wpAnyD_take 3 (v := ?_) (by kernel_rfl) (by kernel_rfl) rfl (by kernel_rfl) (by kernel_rfl) (fun _ _ _ h => h) (Or.inl ⟨by rfl, ?_⟩) (by assumption) ?_
      rotate_left
      · (intro wq hSq; (try dsimp only at hSq); go_simp; try with_reducible rfl)
      try simp only [Act.put, List.setIfInBounds_toArray, List.set_cons_zero, List.set_cons_succ]
      refine wpAnyD_take 4 (v := ?_) (by kernel_rfl) (by kernel_rfl) rfl (by kernel_rfl) (by kernel_rfl) (fun _ _ _ h => h) (Or.inl ⟨by rfl, ?_⟩) (by assumption) ?_
      rotate_left
      · (intro wq hSq; (try dsimp only at hSq); go_simp; try with_reducible rfl)
      try simp only [Act.put, List.setIfInBounds_toArray, List.set_cons_zero, List.set_cons_succ]
      refine wpAnyD_take 5 (v := ?_) (by kernel_rfl) (by kernel_rfl) rfl (by kernel_rfl) (by kernel_rfl) (fun _ _ _ h => h) (Or.inl ⟨by rfl, ?_⟩) (by assumption) ?_
      rotate_left
      · (intro wq hSq; (try dsimp only at hSq); go_simp; try with_reducible rfl)
      try simp only [Act.put, List.setIfInBounds_toArray, List.set_cons_zero, List.set_cons_succ]
      refine wpAnyD_take 6 (v := ?_) (by kernel_rfl) (by kernel_rfl) rfl (by kernel_rfl) (by kernel_rfl) (fun _ _ _ h => h) (Or.inl ⟨by rfl, ?_⟩) (by assumption) ?_
      rotate_left
      · (intro wq hSq; (try dsimp only at hSq); go_simp; try with_reducible rfl)
      try simp only [Act.put, List.setIfInBounds_toArray, List.set_cons_zero, List.set_cons_succ]
      refine wpAnyD_take 7 (v := ?_) (by kernel_rfl) (by kernel_rfl) rfl (by kernel_rfl) (by kernel_rfl) (fun _ _ _ h => h) (Or.inl ⟨by rfl, ?_⟩) (by assumption) ?_
      rotate_left
      · (intro wq hSq; (try dsimp only at hSq); go_simp; try with_reducible rfl)
      try simp only [Act.put, List.setIfInBounds_toArray, List.set_cons_zero, List.set_cons_succ]
      refine wpAnyD_take 8 (v := ?_) (by kernel_rfl) (by kernel_rfl) rfl (by kernel_rfl) (by kernel_rfl) (fun _ _ _ h => h) (Or.inl ⟨by rfl, ?_⟩) (by assumption) ?_
      rotate_left
      · (intro wq hSq; (try dsimp only at hSq); go_simp; try with_reducible rfl)
      try simp only [Act.put, List.setIfInBounds_toArray, List.set_cons_zero, List.set_cons_succ]
      refine wpAnyD_take 9 (v := ?_) (by kernel_rfl) (by kernel_rfl) rfl (by kernel_rfl) (by kernel_rfl) (fun _ _ _ h => h) (Or.inl ⟨by rfl, ?_⟩) (by assumption) ?_
      rotate_left
      · (intro wq hSq; (try dsimp only at hSq); go_simp; try with_reducible rfl)
      try simp only [Act.put, List.setIfInBounds_toArray, List.set_cons_zero, List.set_cons_succ]
      refine wpAnyD_take 10 (v := ?_) (by kernel_rfl) (by kernel_rfl) rfl (by kernel_rfl) (by kernel_rfl) (fun _ _ _ h => h) (Or.inl ⟨by rfl, ?_⟩) (by assumption) ?_
      rotate_left
      · (intro wq hSq; (try dsimp only at hSq); go_simp; try with_reducible rfl)
      try simp only [Act.put, List.setIfInBounds_toArray, List.set_cons_zero, List.set_cons_succ]
      refine wpAnyD_keep 11 (by kernel_rfl) rfl (fun K hK => ?_)
      go_simp
      go_at_call 43
      (with_reducible refine (HBAL.out _).mono ?_)
      rintro e w2 ⟨rfl, hb2⟩
      have hb2' : Below w1.heap.size w1 w2 := ((Below.refl w1.heap.size w1).drew).trans hb2
      refine hK.out _ _ (HCL1.out _ hb2') (fun hHeld3 => ?_)
      have HB2 := Lib.hid (below_via B1.out hb2')
      clear hK K hHeld hb2 hb2' c0 dq dr
      try simp only [Act.put, List.setIfInBounds_toArray, List.set_cons_zero, List.set_cons_succ]
      refine wpAnyD_takeW 12 (v := ?_) (by kernel_rfl) rfl (by kernel_rfl) (by kernel_rfl) (fun _ _ _ h => h) (Or.inl ⟨by rfl, ?_⟩) ?_
      rotate_left
      · (intro wq hSq; (try dsimp only at hSq); go_simp; try with_reducible rfl)
      try simp only [Act.put, List.setIfInBounds_toArray, List.set_cons_zero, List.set_cons_succ]
      refine wpAnyD_takeW 13 (v := ?_) (by kernel_rfl) rfl (by kernel_rfl) (by kernel_rfl) (fun _ _ _ h => h) (Or.inl ⟨by rfl, ?_⟩) ?_
      rotate_left
      · (intro wq hSq; (try dsimp only at hSq); go_simp; try with_reducible rfl)
      try simp only [Act.put, List.setIfInBounds_toArray, List.set_cons_zero, List.set_cons_succ]
      refine wpAnyD_takeW 14 (v := ?_) (by kernel_rfl) rfl (by kernel_rfl) (by kernel_rfl) (fun _ _ _ h => h) (Or.inl ⟨by rfl, ?_⟩) ?_
      rotate_left
      · (intro wq hSq; (try dsimp only at hSq); go_simp; try with_reducible rfl)
      try simp only [Act.put, List.setIfInBounds_toArray, List.set_cons_zero, List.set_cons_succ]
      refine wpAnyD_takeW 15 (v := ?_) (by kernel_rfl) rfl (by kernel_rfl) (by kernel_rfl) (fun _ _ _ h => h) (Or.inl ⟨by rfl, ?_⟩) ?_
      rotate_left
      · (intro wq hSq; (try dsimp only at hSq); go_simp; try with_reducible rfl)
      try simp only [Act.put, List.setIfInBounds_toArray, List.set_cons_zero, List.set_cons_succ]
      refine wpAnyD_takeW 16 (v := ?_) (by kernel_rfl) rfl (by kernel_rfl) (by kernel_rfl) (fun _ _ _ h => h) (Or.inl ⟨by rfl, ?_⟩) ?_
      rotate_left
      · (intro wq hSq; (try dsimp only at hSq); go_simp; try with_reducible rfl)
      try simp only [Act.put, List.setIfInBounds_toArray, List.set_cons_zero, List.set_cons_succ]
      refine wpAnyD_end (by kernel_rfl) ?_
      go_wp2_with fail
      (with_reducible refine (HOF.out _).mono ?_)
      rintro e w3 ⟨rfl, hb3⟩
      have HB3 := Lib.hid (below_via HB2.out hb3)
      clear hb3
      go_wp2_with fail
      (with_reducible refine (HDV.out _ _ (HS.out.below HB3.out) ((HR.out.below HB3.out).mono HB3.out.size)).mono ?_)
      rintro e w4 hr
      obtain ⟨v3, rfl, ho3, hb3⟩ := hr.back HB3.out
      obtain ⟨va, vc, rfl, -⟩ := ho3.at_
      have HO3 := Lib.hid ho3
      have HB4 := Lib.hid hb3
      clear ho3 hb3 hr
      go_wp2
      rw [HP.out]
      exact bodyPost_ret (v := .tuple #[.slice va _ vc, .int .i64 d, .int .i64 0]) (by simp [results, Try.results13, go_sem]) rfl ⟨_, rfl, HO3.out, HB4.out⟩
set_option maxRecDepth 100000 in
set_option maxHeartbeats 8000000 in
theorem refScale_any (b : Nat) (ps rs : List Nat) (rv : Value) (t : Nat) (htl : t < 4294967296) (w : World) (hs : RefAt w b ps) (hsys : SysP ps) (hr : w.reads w.heap.size rv (rs.map u32V)) (ok : Bool) (hok : ok = true ↔ RowP ps rs) :
    Calls Try.prog 16 #[.pointer (some ⟨b, 0, none⟩), rv, .int .u32 (t : Int)] w (RowE w (scaleF ps rs t ok).1 (scaleF ps rs t ok).2) := by
  obtain ⟨HPOST, hpost⟩ : ∃ R, R = RowE w (scaleF ps rs t ok).1 (scaleF ps rs t ok).2 := ⟨_, rfl⟩
  rw [← hpost]
  have HP := Lib.hid hpost
  have HROW := Lib.hid (refRow_b b ps rs rv w hs hr ok hok)
  cases ok with
  | false =>
    obtain ⟨ra, rc, rfl, -⟩ := reads_u32 hr
    clear hpost hs hr hok
    go_enter Try.func16, Try.ntmps16
    go_wp2_with fail
    (with_reducible refine (HROW.out).mono ?_)
    rintro e w1 ⟨rfl, hb1⟩
    go_wp2
    rw [HP.out]
    exact RowE.nil 2 hb1
  | true =>
    have hrow := hok.1 rfl
    have hn1 := hsys.1
    have hl25 := hsys.2.1
    obtain ⟨m, hm⟩ : ∃ m, ps.length = m + 1 := ⟨ps.length - 1, by omega⟩
    obtain ⟨q1, q2, q3, q4⟩ := hsys.last
    have hrl := hrow.last hn1
    obtain ⟨bp, op, pc, br, or, rc, rfl, i1, i2, i3, i4, hcl⟩ := ref_last hs hsys hr hrow m hm
    have HCL := Lib.hid hcl
    have HS := Lib.hid hs
    have HR := Lib.hid hr
    have HM := Lib.hid hm
    have hm25 : m ≤ 25 := by omega
    have t1 : ((m + 1 : Nat) : Int) - 1 = (m : Int) := by omega
    have t5 : (m : Int) + 1 - 1 = (m : Int) := by omega
    have t2 : (m : Int) < ((m + 1 : Nat) : Int) := by omega
    have t3 : (m : Int) < (m : Int) + 1 := by omega
    obtain ⟨x, hx⟩ : ∃ x, x = lastP rs := ⟨_, rfl⟩
    obtain ⟨q, hq⟩ : ∃ x, x = lastP ps := ⟨_, rfl⟩
    rw [← hx, ← hq] at HCL
    have hq3 : 3 ≤ q := by omega
    have hqb : q ≤ 2147483647 := by omega
    have hxq : x < q := by omega
    have n1 : ((q : Int) == 0) = false := by rw [beq_eq_false_iff_ne]; omega
    have n4 : ¬ q = 0 := by omega
    obtain ⟨tq, htq⟩ : ∃ z, z = t % q := ⟨_, rfl⟩
    have n2 : (t : Int) % (q : Int) = (tq : Int) := by rw [htq]; simp
    have n3 : (t : Int).tmod (q : Int) = (tq : Int) := by rw [htq]; rfl
    have HQ := Lib.hid hq
    have HX := Lib.hid hx
    have HTQ := Lib.hid htq
    have HSYS := Lib.hid hsys
    have HROWP := Lib.hid hrow
    clear hpost hs hr hok hcl q1 q2 q3 q4 hrl hm hq hx htq hsys hrow hn1 hl25
    by_cases ht1 : t < 1
    · have k1 : (t : Int) < 1 := by omega
      have : scaleF ps rs t true = ([], 2) := by unfold scaleF; rw [if_pos rfl, if_pos (Or.inl ht1)]
      have HV := Lib.hid this
      clear this ht1
      go_enter Try.func16, Try.ntmps16
      go_wp2_with fail
      (with_reducible refine (HROW.out).mono ?_)
      rintro e w1 ⟨rfl, hb1⟩
      go_wp2
      rw [HP.out, HV.out]
      exact RowE.nil 2 hb1
    have k1 : ¬ (t : Int) < 1 := by omega
    by_cases ht2 : 2147483647 < t
    · have k2 : (2147483647 : Int) < (t : Int) := by omega
      have : scaleF ps rs t true = ([], 2) := by unfold scaleF; rw [if_pos rfl, if_pos (Or.inr (Or.inl ht2))]
      have HV := Lib.hid this
      clear this ht1 ht2
      go_enter Try.func16, Try.ntmps16
      go_wp2_with fail
      (with_reducible refine (HROW.out).mono ?_)
      rintro e w1 ⟨rfl, hb1⟩
      go_wp2
      rw [HP.out, HV.out]
      exact RowE.nil 2 hb1
    have k2 : ¬ (2147483647 : Int) < (t : Int) := by omega
    by_cases ht3 : tq = 0
    · have k3 : ((tq : Int) == 0) = true := by rw [beq_iff_eq]; omega
      have : scaleF ps rs t true = ([], 2) := by unfold scaleF; rw [if_pos rfl, if_pos (Or.inr (Or.inr (by rw [← HQ.out, ← HTQ.out]; exact ht3)))]
      have HV := Lib.hid this
      clear this ht1 ht2 ht3
      go_enter Try.func16, Try.ntmps16
      go_wp2_with fail
      (with_reducible refine (HROW.out).mono ?_)
      rintro e w1 ⟨rfl, hb1⟩
      obtain ⟨c0, dq, dr⟩ := HCL.out w1 hb1
      go_wp2
      rw [HP.out, HV.out]
      exact RowE.nil 2 hb1
    have k3 : ((tq : Int) == 0) = false := by rw [beq_eq_false_iff_ne]; omega
    have htm : t % lastP ps ≠ 0 := by rw [← HQ.out, ← HTQ.out]; exact ht3
    have hno : ¬ (t < 1 ∨ 2147483647 < t ∨ t % lastP ps = 0) := by rintro (h | h | h) <;> omega
    by_cases hm0 : m = 0
    · subst hm0
      have : scaleF ps rs t true = ([], 9) := by unfold scaleF; rw [if_pos rfl, if_neg hno, if_pos HM.out]
      have HV := Lib.hid this
      clear this ht1 ht2 ht3 hno htm
      go_enter Try.func16, Try.ntmps16
      go_wp2_with fail
      (with_reducible refine (HROW.out).mono ?_)
      rintro e w1 ⟨rfl, hb1⟩
      obtain ⟨c0, dq, dr⟩ := HCL.out w1 hb1
      have dq' : w1.cell? ⟨bp, op, none⟩ = some (.int .u32 (q : Int)) := dq
      have dr' : w1.cell? ⟨br, or, none⟩ = some (.int .u32 (x : Int)) := dr
      clear dq dr
      go_wp2
      rw [HP.out, HV.out]
      exact RowE.nil 9 hb1
    have k4 : ((m : Int) == 0) = false := by rw [beq_eq_false_iff_ne]; omega
    obtain ⟨j1, j2, -⟩ := invN_spec (a := tq) (n := q) (by omega) (by omega) (by rw [HTQ.out]; exact Nat.mod_lt _ (by omega)) (by rw [HTQ.out, HQ.out]; exact scale_gcd HSYS.out htm)
    obtain ⟨v, hv⟩ : ∃ z, z = invN tq q := ⟨_, rfl⟩
    rw [← hv] at j1 j2
    have htqq : tq < q := by rw [HTQ.out]; exact Nat.mod_lt _ (by omega)
    obtain ⟨e0, he0⟩ : ∃ z, z = x * v % q := ⟨_, rfl⟩
    have heq : e0 < q := by rw [he0]; exact Nat.mod_lt _ (by omega)
    obtain ⟨d, hd⟩ : ∃ z, z = balI e0 q := ⟨_, rfl⟩
    have hda := balI_abs heq
    rw [← hd] at hda
    have hsd : scaleD ps rs t = d := by rw [hd, he0, hv, HTQ.out, HX.out, HQ.out]; rfl
    obtain ⟨D, hD⟩ : ∃ z, z = d * (t : Int) := ⟨_, rfl⟩
    have hDb : D.natAbs < 18446744073709551616 := by
      have h1 : D.natAbs ≤ 2147483647 * 2147483647 := by
        rw [hD, Int.natAbs_mul]
        exact Nat.mul_le_mul (by omega) (by omega)
      omega
    have hf : scaleF ps rs t true = (resL (ps.take (ps.length - 1)) ((joinZ ps rs - D) / (lastP ps : Nat)), 0) := by
      unfold scaleF
      rw [if_pos rfl, if_neg hno, if_neg (by have := HM.out; omega), hsd, hD]
    have HINV : Hid (∀ W : World, Calls Try.prog 47 #[.int .u32 (tq : Int), .int .u32 (q : Int)] W (U32Ok v W)) := fun W => Inverse01_in tq q v htqq (by omega) hqb j1 j2 W
    have HMU : Hid (∀ W : World, Calls Try.prog 48 #[.int .u32 (x : Int), .int .u32 (v : Int), .int .u32 (q : Int)] W (U32Ok e0 W)) := fun W => by rw [he0]; exact Mul01_in x v q hxq j1 (by omega) hqb W
    have HBAL : Hid (∀ W : World, Calls Try.prog 43 #[.int .u32 (e0 : Int), .int .u32 (q : Int)] W (I64Ok d W)) := fun W => by rw [hd]; exact Balanced01_in e0 q heq (by omega) hqb W
    have rd : InR d := inR_small (by omega)
    have rt : InR (t : Int) := inR_small (by omega)
    have rD : InR D := inR_small hDb
    have HOD : Hid (∀ W : World, Calls Try.prog 24 #[.int .i64 d] W fun e w' => e = .returned (.agg #[.bool (zN d), .string (zT d)]) ∧ Below W.heap.size W w') := fun W => refOf_z d (by omega) (by omega) W
    have HOT : Hid (∀ W : World, Calls Try.prog 24 #[.int .i64 (t : Int)] W fun e w' => e = .returned (.agg #[.bool (zN (t : Int)), .string (zT (t : Int))]) ∧ Below W.heap.size W w') := fun W => refOf_z t (by omega) (by omega) W
    have HML : Hid (∀ W : World, Calls Try.prog 28 #[.agg #[.bool (zN d), .string (zT d)], .agg #[.bool (zN (t : Int)), .string (zT (t : Int))]] W (WideOk D W)) := fun W => by
      have := refMul_z d t rd rt (by rw [← hD]; exact rD) W
      rwa [← hD] at this
    have HDV : Hid (∀ W v, RefAt W b ps → W.reads W.heap.size v (rs.map u32V) → Calls Try.prog 44 #[.pointer (some ⟨b, 0, none⟩), v, .agg #[.bool (zN D), .string (zT D)]] W (RowRet W (resL (ps.take (ps.length - 1)) ((joinZ ps rs - D) / (lastP ps : Nat))))) := fun W v h hv => refDivided_any b ps rs v D hDb W h HSYS.out hv HROWP.out
    obtain ⟨L, hL⟩ : ∃ L, L = resL (ps.take (ps.length - 1)) ((joinZ ps rs - D) / (lastP ps : Nat)) := ⟨_, rfl⟩
    rw [← hL] at hf HDV
    rw [hf] at HP
    obtain ⟨db, hdb⟩ : ∃ z, z = zN d := ⟨_, rfl⟩
    obtain ⟨dt, hdt⟩ : ∃ z, z = zT d := ⟨_, rfl⟩
    obtain ⟨ub, hub⟩ : ∃ z, z = zN (t : Int) := ⟨_, rfl⟩
    obtain ⟨ut, hut⟩ : ∃ z, z = zT (t : Int) := ⟨_, rfl⟩
    obtain ⟨Db, hDb'⟩ : ∃ z, z = zN D := ⟨_, rfl⟩
    obtain ⟨Dt, hDt⟩ : ∃ z, z = zT D := ⟨_, rfl⟩
    unfold WideOk at HML
    rw [← hdb, ← hdt] at HOD HML
    rw [← hub, ← hut] at HOT HML
    rw [← hDb', ← hDt] at HML HDV
    have hd64 : -9223372036854775808 ≤ d ∧ d < 9223372036854775808 := by omega
    have w64t : IntKind.i64.wrap (t : Int) = (t : Int) := IntWalk.i64_in _ (by omega)
    clear ht1 ht2 ht3 hno htm hm0 j1 j2 hv htqq he0 heq hd hda hsd hD hDb hf rd rt rD hL hdb hdt hub hut hDb' hDt
    go_enter Try.func16, Try.ntmps16
    go_wp2_with fail
    (with_reducible refine (HROW.out).mono ?_)
    rintro e w1 ⟨rfl, hb1⟩
    have B := Lib.hid hb1
    obtain ⟨c0, dq, dr⟩ := HCL.out w1 hb1
    clear hb1
    go_wp2_with fail
    (with_reducible refine (HINV.out _).mono ?_)
    rintro e w2 ⟨rfl, hb⟩
    replace B := bH B hb
    clear c0 dq dr hb
    obtain ⟨c0, dq, dr⟩ := HCL.out w2 B.out
    go_wp2_with fail
    (with_reducible refine (HMU.out _).mono ?_)
    rintro e w3 ⟨rfl, hb⟩
    replace B := bH B hb
    clear c0 dq dr hb
    go_wp2_with fail
    (with_reducible refine (HBAL.out _).mono ?_)
    rintro e w4 ⟨rfl, hb⟩
    replace B := bH B hb
    clear hb
    go_wp2_with fail
    (with_reducible refine (HOD.out _).mono ?_)
    rintro e w5 ⟨rfl, hb⟩
    replace B := bH B hb
    clear hb
    go_wp2_with fail
    (with_reducible refine (HOT.out _).mono ?_)
    rintro e w6 ⟨rfl, hb⟩
    replace B := bH B hb
    clear hb
    go_wp2_with fail
    (with_reducible refine (HML.out _).mono ?_)
    rintro e w7 ⟨rfl, hb⟩
    replace B := bH B hb
    clear hb
    go_upto_region 13 with (fail)
    obtain ⟨hb, hg⟩ := wide_box w7 Db Dt
    obtain ⟨pD, hpD⟩ : ∃ z, z = w7.heap.size := ⟨_, rfl⟩
    rw [← hpD] at hg ⊢
    generalize w7.alloc (.cells #[.bool Db, .string Dt] 38) = w8 at hb hg ⊢
    replace B := bH B hb
    obtain ⟨x0, x1, -⟩ := wide_cells hg
    clear hb hg hpD
    go_wp2_with fail
    (with_reducible refine (HDV.out _ _ (HS.out.below B.out) ((HR.out.below B.out).mono B.out.size)).mono ?_)
    rintro e w9 hr
    obtain ⟨v3, rfl, ho3, hb3⟩ := hr.back B.out
    obtain ⟨va, vc, rfl, -⟩ := ho3.at_
    have HO3 := Lib.hid ho3
    have HB4 := Lib.hid hb3
    clear ho3 hb3 hr x0 x1
    go_wp2
    rw [HP.out]
    exact ⟨_, rfl, HO3.out, HB4.out⟩
end Go.Proofs.Ytnjblppapmflhaa

/- Walks: a system of the program and one of the reference. -/
namespace Go.Proofs.Ytnjblppapmflhaa
set_option linter.all false
open Go.RowKit Go.Shelf Go.WideNum PN
def BothRet (w : World) (ps : List Nat) (ok : Bool) (e : Ending) (w' : World) : Prop :=
  Below w.heap.size w w' ∧ (if ok then ∃ b c, e = .returned (.tuple #[.pointer (some ⟨b, 0, none⟩), .pointer (some ⟨c, 0, none⟩), .bool true]) ∧ SysAt w' b ps ∧ RefAt w' c ps else e = .returned (.tuple #[.pointer none, .pointer none, .bool true]))
set_option maxHeartbeats 4000000 in
theorem both_any (ps : List Nat) (pv : Value) (w : World) (hr : w.reads w.heap.size pv (ps.map u32V)) (hpb : ∀ p ∈ ps, p < 4294967296) (ok : Bool) (hok : ok = true ↔ SysP ps) :
    Calls Try.prog 10 #[pv] w (BothRet w ps ok) := by
  obtain ⟨HPOST, hpost⟩ : ∃ R, R = BothRet w ps ok := ⟨_, rfl⟩
  rw [← hpost]
  have HP := Lib.hid hpost
  have HN1 := Lib.hid (New_any ps pv w hr hpb ok hok)
  have HN2 : Hid (∀ W, Below w.heap.size w W → Calls Try.prog 35 #[pv] W (RefRet W ps ok)) := fun W hb => refNew_any ps pv W ((hr.below hb).mono hb.size) hpb ok hok
  obtain ⟨pa, pc, rfl, -⟩ := reads_u32 hr
  clear hpost hr hpb hok
  go_enter Try.func10, Try.ntmps10
  go_wp2_with fail
  (with_reducible refine (HN1.out).mono ?_)
  cases ok with
  | false =>
    rintro e w1 ⟨hb1, he⟩
    subst he
    have B := Lib.hid hb1
    clear hb1
    go_wp2_with fail
    (with_reducible refine (HN2.out _ B.out).mono ?_)
    rintro e w2 ⟨hb2, he⟩
    subst he
    have B2 := Lib.hid (below_via B.out hb2)
    clear hb2
    go_wp2
    rw [HP.out]
    exact bodyPost_ret (v := .tuple #[.pointer none, .pointer none, .bool true]) (by simp [results, Try.results10, go_sem]) rfl ⟨B2.out, rfl⟩
  | true =>
    rintro e w1 ⟨hb1, he, hs⟩
    subst he
    have B := Lib.hid hb1
    obtain ⟨b, hb⟩ : ∃ b, b = w.heap.size := ⟨_, rfl⟩
    rw [← hb] at hs ⊢
    have S := Lib.hid hs
    clear hb1 hs hb
    go_wp2_with fail
    (with_reducible refine (HN2.out _ B.out).mono ?_)
    rintro e w2 ⟨hb2, c, he, hu⟩
    subst he
    have B2 := Lib.hid (below_via B.out hb2)
    have S2 := Lib.hid (S.out.below hb2)
    have U2 := Lib.hid hu
    clear hb2 hu
    go_wp2
    rw [HP.out]
    exact bodyPost_ret (v := .tuple #[.pointer (some ⟨b, 0, none⟩), .pointer (some ⟨c, 0, none⟩), .bool true]) (by simp [results, Try.results10, go_sem]) rfl ⟨B2.out, b, c, rfl, S2.out, U2.out⟩
end Go.Proofs.Ytnjblppapmflhaa

/- Walks: the law ResidueDivides. -/
namespace Go.Proofs.Ytnjblppapmflhaa
set_option linter.all false
open Go.RowKit Go.Shelf Go.WideNum PN
theorem same_b (v1 v2 : Value) (xs : List Nat) (w : World) (h1 : w.reads w.heap.size v1 (xs.map u32V)) (h2 : w.reads w.heap.size v2 (xs.map u32V)) :
    Calls Try.prog 14 #[v1, v2] w fun e w' => e = .returned (.bool true) ∧ Below w.heap.size w w' := by
  refine (samew_any v1 v2 xs xs _ _ w h1 h2).mono ?_
  rintro e w' ⟨he, n, rfl⟩
  exact ⟨by simpa using he, below_drewN (Below.refl _ _) n⟩
theorem kept_b (l : List Nat) (v own : Value) (hl : l.length ≤ 1000) (w : World) (hr : w.reads w.heap.size v (l.map u32V)) (h : Lent w v own l) :
    Calls Try.prog 17 #[own, v] w fun e w' => e = .returned (.bool true) ∧ Below w.heap.size w w' := by
  refine (Kept_any l v own hl w hr h).mono ?_
  rintro e w' ⟨he, n, rfl⟩
  exact ⟨he, below_drewN (Below.refl _ _) n⟩
theorem sH {w w' : World} {b : Nat} {ps : List Nat} (h : Hid (SysAt w b ps)) (hb : Below w.heap.size w w') : Hid (SysAt w' b ps) := h.out.below hb
theorem uH {w w' : World} {b : Nat} {ps : List Nat} (h : Hid (RefAt w b ps)) (hb : Below w.heap.size w w') : Hid (RefAt w' b ps) := h.out.below hb
theorem rH {w w' : World} {v : Value} {l : List Value} (h : Hid (w.reads w.heap.size v l)) (hb : Below w.heap.size w w') : Hid (w'.reads w'.heap.size v l) := (h.out.below hb).mono hb.size
theorem lH {w w' : World} {v own : Value} {l : List Nat} (h : Hid (Lent w v own l)) (hb : Below w.heap.size w w') : Hid (Lent w' v own l) := h.out.below hb
theorem Lent.slice {w : World} {v own : Value} {l : List Nat} (h : Lent w v own l) : ∃ a n c, own = .slice a n c := by
  rcases h with ⟨-, rfl, -⟩ | ⟨-, g, c, rfl, -⟩
  · exact ⟨_, _, _, rfl⟩
  · exact ⟨_, _, _, rfl⟩
set_option maxRecDepth 100000 in
set_option maxHeartbeats 16000000 in
theorem divides_law (ps rs : List Nat) (pv rv : Value) (t : Nat) (ht : t < 4294967296) (w : World) (hr : w.reads w.heap.size pv (ps.map u32V)) (hpb : ∀ q ∈ ps, q < 4294967296) (hr2 : w.reads w.heap.size rv (rs.map u32V)) :
    Calls Try.prog 3 #[pv, rv, .int .u32 (t : Int)] w fun e w' => e = .returned (.bool true) ∧ Below w.heap.size w w' := by
  have HSH := Lib.hid shown_any
  obtain ⟨ok1, hok1⟩ := em_bool (SysP ps)
  obtain ⟨ok2, hok2⟩ := em_bool (RowP ps rs)
  have HB := Lib.hid (both_any ps pv w hr hpb ok1 hok1)
  have HO1 := Lib.hid hok1
  have HO2 := Lib.hid hok2
  have R := Lib.hid hr2
  have hl1 := hr.le_map
  have hl2 := hr2.le_map
  obtain ⟨pa, pc, rfl, -⟩ := reads_u32 hr
  obtain ⟨ra, rc, rfl, -⟩ := reads_u32 hr2
  obtain ⟨m, hm⟩ : ∃ m, m = ps.length := ⟨_, rfl⟩
  obtain ⟨k, hk⟩ : ∃ k, k = rs.length := ⟨_, rfl⟩
  rw [← hm] at HB hl1 ⊢
  rw [← hk] at R hl2 ⊢
  have HK := Lib.hid hk
  clear hok1 hok2 hr hr2 hpb hm hk
  by_cases h1 : 40 < m
  · have t1 : (40 : Int) < (m : Int) := by omega
    clear h1
    go_enter Try.func3, Try.ntmps3
    go_wp2_with fail
    (with_reducible refine (HSH.out _).mono ?_)
    rintro e w1 ⟨rfl, hb1⟩
    go_wp2
    go_ret
    exact ⟨rfl, hb1⟩
  have t1 : ¬ (40 : Int) < (m : Int) := by omega
  by_cases h2 : 60 < k
  · have t2 : (60 : Int) < (k : Int) := by omega
    clear h1 h2
    go_enter Try.func3, Try.ntmps3
    go_wp2_with fail
    (with_reducible refine (HSH.out _).mono ?_)
    rintro e w1 ⟨rfl, hb1⟩
    go_wp2
    go_ret
    exact ⟨rfl, hb1⟩
  have t2 : ¬ (60 : Int) < (k : Int) := by omega
  have hk6 : rs.length ≤ 1000 := by have := HK.out; omega
  have HK6 := Lib.hid hk6
  clear h1 h2 hk6
  go_enter Try.func3, Try.ntmps3
  go_wp2_with fail
  (with_reducible refine (HB.out).mono ?_)
  cases ok1 with
  | false =>
    rintro e w1 ⟨hb1, he⟩
    subst he
    have B := Lib.hid hb1
    clear hb1
    go_wp2_with fail
    (with_reducible refine (HSH.out _).mono ?_)
    rintro e w2 ⟨rfl, hb2⟩
    go_wp2
    go_ret
    exact ⟨rfl, below_via B.out hb2⟩
  | true =>
  rintro e w1 ⟨hb1, b, c, he, hs, hu⟩
  subst he
  have hsys := HO1.out.1 rfl
  have B := Lib.hid hb1
  have S := Lib.hid hs
  have U := Lib.hid hu
  replace R := rH R hb1
  clear hb1 hs hu
  obtain ⟨L1, hL1⟩ : ∃ L, L = (dropF ps rs ok2).1 := ⟨_, rfl⟩
  obtain ⟨d1, hd1⟩ : ∃ L, L = (dropF ps rs ok2).2.1 := ⟨_, rfl⟩
  obtain ⟨e1, he1⟩ : ∃ L, L = (dropF ps rs ok2).2.2 := ⟨_, rfl⟩
  obtain ⟨L2, hL2⟩ : ∃ L, L = (scaleF ps rs t ok2).1 := ⟨_, rfl⟩
  obtain ⟨e2, he2⟩ : ∃ L, L = (scaleF ps rs t ok2).2 := ⟨_, rfl⟩
  have HD : Hid (∀ W v, SysAt W b ps → W.reads W.heap.size v (rs.map u32V) → Calls Try.prog 12 #[.pointer (some ⟨b, 0, none⟩), v] W (DropE W L1 d1 e1)) := fun W v h hv => by rw [hL1, hd1, he1]; exact Drop_any b ps rs v W h hsys hv ok2 HO2.out
  have HDR : Hid (∀ W v, RefAt W c ps → W.reads W.heap.size v (rs.map u32V) → Calls Try.prog 13 #[.pointer (some ⟨c, 0, none⟩), v] W (DropE W L1 d1 e1)) := fun W v h hv => by rw [hL1, hd1, he1]; exact refDrop_any c ps rs v W h hsys hv ok2 HO2.out
  have HC : Hid (∀ W v, SysAt W b ps → W.reads W.heap.size v (rs.map u32V) → Calls Try.prog 15 #[.pointer (some ⟨b, 0, none⟩), v, .int .u32 (t : Int)] W (RowE W L2 e2)) := fun W v h hv => by rw [hL2, he2]; exact Scale_any b ps rs v t ht W h hsys hv ok2 HO2.out
  have HCR : Hid (∀ W v, RefAt W c ps → W.reads W.heap.size v (rs.map u32V) → Calls Try.prog 16 #[.pointer (some ⟨c, 0, none⟩), v, .int .u32 (t : Int)] W (RowE W L2 e2)) := fun W v h hv => by rw [hL2, he2]; exact refScale_any c ps rs v t ht W h hsys hv ok2 HO2.out
  clear hsys hL1 hd1 he1 hL2 he2
  go_wp2_with fail
  (with_reducible refine (Lend_any rs _ HK6.out w1 R.out).mono ?_)
  rintro e w2 ⟨own, rfl, hl, hb⟩
  have LE := Lib.hid hl
  replace B := bH B hb
  replace S := sH S hb
  replace U := uH U hb
  replace R := rH R hb
  have O := Lib.hid (hl.reads)
  obtain ⟨oa, on, oc, rfl⟩ := hl.slice
  clear hl hb
  go_wp2_with fail
  (with_reducible refine (HD.out _ _ S.out O.out).mono ?_)
  rintro e w3 ⟨v, rfl, ho, hb⟩
  have A := Lib.hid ho.reads
  obtain ⟨va, vc, rfl, -⟩ := ho.at_
  replace B := bH B hb
  replace S := sH S hb
  replace U := uH U hb
  replace R := rH R hb
  replace LE := lH LE hb
  replace O := rH O hb
  clear ho hb
  go_wp2_with fail
  (with_reducible refine (HDR.out _ _ U.out R.out).mono ?_)
  rintro e w4 ⟨v, rfl, ho, hb⟩
  have C := Lib.hid ho.reads
  obtain ⟨xa, xc, rfl, -⟩ := ho.at_
  replace A := rH A hb
  replace B := bH B hb
  replace S := sH S hb
  replace U := uH U hb
  replace R := rH R hb
  replace LE := lH LE hb
  replace O := rH O hb
  clear ho hb
  go_wp2_with fail
  (with_reducible refine (same_b _ _ L1 _ A.out C.out).mono ?_)
  rintro e w5 ⟨rfl, hb⟩
  replace B := bH B hb
  replace S := sH S hb
  replace U := uH U hb
  replace R := rH R hb
  replace LE := lH LE hb
  replace O := rH O hb
  clear hb A C
  go_wp2_with fail
  (with_reducible refine (HC.out _ _ S.out O.out).mono ?_)
  rintro e w6 ⟨v, rfl, ho, hb⟩
  have A := Lib.hid ho.reads
  obtain ⟨ya, yc, rfl, -⟩ := ho.at_
  replace B := bH B hb
  replace U := uH U hb
  replace R := rH R hb
  replace LE := lH LE hb
  clear ho hb S O
  go_wp2_with fail
  (with_reducible refine (HCR.out _ _ U.out R.out).mono ?_)
  rintro e w7 ⟨v, rfl, ho, hb⟩
  have C := Lib.hid ho.reads
  obtain ⟨za, zc, rfl, -⟩ := ho.at_
  replace A := rH A hb
  replace B := bH B hb
  replace R := rH R hb
  replace LE := lH LE hb
  clear ho hb U
  go_wp2_with fail
  (with_reducible refine (same_b _ _ L2 _ A.out C.out).mono ?_)
  rintro e w8 ⟨rfl, hb⟩
  replace B := bH B hb
  replace R := rH R hb
  replace LE := lH LE hb
  clear hb A C
  go_wp2_with fail
  (with_reducible refine (kept_b rs _ _ HK6.out _ R.out LE.out).mono ?_)
  rintro e w9 ⟨rfl, hb⟩
  replace B := bH B hb
  clear hb R LE
  go_wp2_with fail
  (with_reducible refine (HSH.out _).mono ?_)
  rintro e w10 ⟨rfl, hb⟩
  replace B := bH B hb
  clear hb
  go_wp2
  go_ret
  exact ⟨rfl, B.out⟩
theorem u32_nat {z : Int} (h : (Lit.int .u32 z).wf = true) : ∃ n : Nat, n < 4294967296 ∧ z = (n : Int) := by
  have h2 : IntKind.u32.min ≤ z ∧ z ≤ IntKind.u32.max := by simpa [Lit.wf] using h
  have h3 : IntKind.u32.min = 0 := by decide
  have h4 : IntKind.u32.max = 4294967295 := by decide
  exact ⟨z.toNat, by omega, by omega⟩
theorem divides_lawZ (ps rs : List Nat) (pv rv : Value) (tz : Int) (hwf : (Lit.int .u32 tz).wf = true) (w : World) (hr : w.reads w.heap.size pv (ps.map u32V)) (hpb : ∀ q ∈ ps, q < 4294967296) (hr2 : w.reads w.heap.size rv (rs.map u32V)) :
    Calls Try.prog 3 #[pv, rv, .int .u32 tz] w fun e w' => e = .returned (.bool true) ∧ Below w.heap.size w w' := by
  obtain ⟨t, ht, rfl⟩ := u32_nat hwf
  exact divides_law ps rs pv rv t ht w hr hpb hr2
end Go.Proofs.Ytnjblppapmflhaa

/- What the reading of an argument tells of its value. -/

/- What the reading of an argument tells of its value: slices of integers, and slices of these. -/
namespace Go
open RowKit ChangeShapes
section
variable {H : Type} {enc : TypeId × Value → H} {P : Program} {w : World} {held : Bool} {fuel : Nat} {t e q : TypeId} {cs : List Value} {x : DataW H × List MemPlace}
theorem addr_none {a : Addr} {v : Value} {w : World} (h : w.cell? (a.add 0) = some v) : ∃ b off, a = ⟨b, off, none⟩ ∧ b < w.heap.size := by
  obtain ⟨b, off, spot⟩ := a
  obtain rfl : spot = none := by
    have := World.cell?_spot h
    simpa [Addr.add] using this
  exact ⟨b, off, rfl, by have := World.block_lt_of_cell? w _ h; simpa [Addr.add] using this⟩
theorem add_none (b off j : Nat) : (⟨b, off, none⟩ : Addr).add j = ⟨b, off + j, none⟩ := by unfold Addr.add; split <;> simp_all
/-- A slice of integers. -/
theorem trod_reads {k : IntKind} (ht : P.underlying t = some (.slice e)) (he : P.underlying e = some (.int k)) (hc : P.cellsOf e = 1) (h : DataW.trod enc P w 0 (fun _ => true) held fuel t cs = some x) :
    ∃ (v : Value) (zs : List Int), cs = [v] ∧ w.reads w.heap.size v (zs.map (Value.int k)) ∧ ∀ z ∈ zs, (Lit.int k z).wf = true := by
  rcases open_ints ht he hc h with ⟨hcs, _⟩ | ⟨a, len, cap, zs, hcs, _, hl, hm, hz, _, hcell, hw⟩
  · exact ⟨_, [], hcs, reads_nil _ _, by simp⟩
  · simp only [if_true] at hz
    refine ⟨_, zs.take len, hcs, ⟨some a, cap, by simp; omega, by simp, by simp; omega, hm, fun j u hj => ?_⟩, fun z hz' => hw z (List.mem_of_mem_take hz')⟩
    have hj' : j < len ∧ j < zs.length := by
      have h1 := (List.getElem?_eq_some_iff.1 hj).1
      simp at h1; omega
    obtain ⟨b, off, rfl, hb⟩ := addr_none (hcell 0 (by omega))
    have hcj := hcell j hj'.2
    rw [add_none] at hcj
    refine ⟨b, off, rfl, hb, ?_⟩
    rw [hcj]
    simp [hj'.1, hj'.2] at hj ⊢
    exact hj
theorem nats_of : ∀ (zs : List Int), (∀ z ∈ zs, (Lit.int .u32 z).wf = true) → ∃ l : List Nat, zs = l.map Int.ofNat ∧ ∀ q ∈ l, q < 4294967296
  | [], _ => ⟨[], rfl, by simp⟩
  | z :: zs, h => by
    obtain ⟨l, rfl, hl⟩ := nats_of zs (fun y hy => h y (by simp [hy]))
    have hb := bounds_u32 (h z (by simp))
    refine ⟨z.toNat :: l, by simp; omega, fun q hq => ?_⟩
    rcases List.mem_cons.1 hq with rfl | hq
    · omega
    · exact hl q hq
theorem trod_reads32 (ht : P.underlying t = some (.slice e)) (he : P.underlying e = some (.int .u32)) (hc : P.cellsOf e = 1) (h : DataW.trod enc P w 0 (fun _ => true) held fuel t cs = some x) :
    ∃ (v : Value) (l : List Nat), cs = [v] ∧ w.reads w.heap.size v (l.map u32V) ∧ ∀ q ∈ l, q < 4294967296 := by
  obtain ⟨v, zs, h1, h2, h3⟩ := trod_reads ht he hc h
  obtain ⟨l, rfl, hl⟩ := nats_of zs h3
  exact ⟨v, l, h1, by rw [List.map_map] at h2; exact h2, hl⟩
/-- A field of a struct. -/
theorem trod_field {fs : Array Field} (ht : P.underlying t = some (.struct fs)) (h : DataW.trod enc P w 0 (fun _ => true) held fuel t cs = some x) (j : Nat) (f : Field) (hj : fs[j]? = some f) :
    ∃ n y, DataW.trod enc P w 0 (fun _ => true) held n f.type ((cs.drop f.offset).take (P.cellsOf f.type)) = some y := by
  obtain ⟨xs, m, rfl, hx, hl, hlen, hget⟩ := DataW.trod_struct ht h
  have hj' := (Array.getElem?_eq_some_iff.1 hj).1
  exact ⟨m, _, (hget j f hj).trans (List.getElem?_eq_getElem (by omega))⟩
end
end Go

/- What the reading of an argument tells of its value: a form. -/

/- What the reading of an argument tells of its value: a slice of words. -/
namespace Go.Proofs.Ytnjblppapmflhaa
set_option linter.all false
open Go.RowKit Go.WideShapes Go.ChangeShapes
set_option maxRecDepth 100000 in
theorem open_words {H : Type} {enc : TypeId × Value → H} {W : World} {base : Nat} {v : Value} {d : DataW H} {p : List MemPlace} (hv : Value.okWide Try.prog W .any base 22 v) (h : DataW.Trod enc Try.prog W 0 (fun _ => true) true 22 v d p) :
    ∃ l : List Nat, W.reads W.heap.size v (l.map u32V) ∧ ∀ q ∈ l, q < 4294967296 := by
  obtain ⟨a, len, cap, rfl⟩ := WideShapes.okWide_slice Try.underlying22 hv
  obtain ⟨fuel, hf⟩ := h
  obtain ⟨v, l, hcs, hr, hl⟩ := trod_reads32 Try.underlying22 Try.underlying23 (by kernel_rfl) hf
  simp [Value.cells] at hcs
  subst hcs
  exact ⟨l, hr, hl⟩
end Go.Proofs.Ytnjblppapmflhaa

/- What the reading of an argument tells of its value: two lists of primes, a row and a form. -/
namespace Go.Proofs.Ytnjblppapmflhaa
set_option linter.all false
open Go.RowKit Go.WideShapes Go.ChangeShapes
set_option maxRecDepth 100000 in
theorem open_case {H : Type} {enc : TypeId × Value → H} {W : World} {base : Nat} {v : Value} {d : DataW H} {p : List MemPlace} (hv : Value.okWide Try.prog W .any base 55 v) (h : DataW.Trod enc Try.prog W 0 (fun _ => true) true 55 v d p) :
    ∃ (v0 v1 v2 : Value) (l0 l1 l2 : List Nat) (neg : Bool) (s : ByteArray), v = .agg #[v0, v1, v2, .bool neg, .string s] ∧ s.size ≤ maxLen ∧ W.reads W.heap.size v0 (l0.map u32V) ∧ (∀ q ∈ l0, q < 4294967296) ∧ W.reads W.heap.size v1 (l1.map u32V) ∧ (∀ q ∈ l1, q < 4294967296) ∧ W.reads W.heap.size v2 (l2.map u32V) := by
  have cA : Try.prog.cellsOf 38 = 2 := by kernel_rfl
  have cC : Try.prog.cellsOf 55 = 5 := by kernel_rfl
  have cS : Try.prog.cellsOf 9 = 1 := by kernel_rfl
  have cB : Try.prog.cellsOf 4 = 1 := by kernel_rfl
  have cU : Try.prog.cellsOf 23 = 1 := by kernel_rfl
  have cL : Try.prog.cellsOf 22 = 1 := by kernel_rfl
  obtain ⟨cs, rfl, hsz⟩ := okWide_struct Try.underlying55 hv
  obtain ⟨fuel, hf⟩ := h
  have hl : cs.toList.length = 5 := by rw [cC] at hsz; simpa using hsz
  obtain ⟨_, _, f0⟩ := trod_field Try.underlying55 hf 0 _ rfl
  obtain ⟨_, _, f1⟩ := trod_field Try.underlying55 hf 1 _ rfl
  obtain ⟨_, _, f2⟩ := trod_field Try.underlying55 hf 2 _ rfl
  obtain ⟨_, _, f3⟩ := trod_field Try.underlying55 hf 3 _ rfl
  obtain ⟨_, _, g0⟩ := trod_field Try.underlying38 f3 0 _ rfl
  obtain ⟨_, _, g1⟩ := trod_field Try.underlying38 f3 1 _ rfl
  obtain ⟨v0, l0, e0, r0, b0⟩ := trod_reads32 Try.underlying22 Try.underlying23 cU f0
  obtain ⟨v1, l1, e1, r1, b1⟩ := trod_reads32 Try.underlying22 Try.underlying23 cU f1
  obtain ⟨v2, l2, e2, r2, b2⟩ := trod_reads32 Try.underlying22 Try.underlying23 cU f2
  obtain ⟨z0, e3, -⟩ := DataW.trod_bool Try.underlying4 g0
  obtain ⟨z1, e4, -, w1⟩ := DataW.trod_string Try.underlying9 g1
  refine ⟨v0, v1, v2, l0, l1, l2, z0, z1, ?_, w1, r0, b0, r1, b1, r2⟩
  congr 1
  apply Array.ext'
  simp only [Value.cells] at e0 e1 e2 e3 e4
  clear f0 f1 f2 f3 g0 g1 hf hv
  generalize cs.toList = l at *
  match l, hl with
  | [k0, k1, k2, k3, k4], _ =>
    simp [cA, cB, cS, cU, cL] at e0 e1 e2 e3 e4
    simp [e0, e1, e2, e3, e4]
end Go.Proofs.Ytnjblppapmflhaa
