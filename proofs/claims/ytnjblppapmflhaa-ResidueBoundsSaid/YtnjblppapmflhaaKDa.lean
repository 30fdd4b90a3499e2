/- Wide integers: helpers and walks, in one text (KD1 KD2 KD3 KD4). -/
import Derived.Test.YtnjblppapmflhaaKB1
import Derived.Test.YtnjblppapmflhaaKC12
import Derived.Test.YtnjblppapmflhaaKAA
/- Walks: a system of the program's; whether residues are a row; residues of an integer. -/
namespace Go.Proofs.Ytnjblppapmflhaa
set_option linter.all false
open Go.RowKit Go.Shelf Go.WideNum PN
/-- The inverses of the earlier primes modulo prime i. -/
def invRow (ps : List Nat) (i : Nat) : List Nat := (ps.take i).map fun q => invN (q % ps.getD i 0) (ps.getD i 0)
def invRows (ps : List Nat) : List (List Nat) := (List.range ps.length).map (invRow ps)
/-- A system that New has made. -/
def SysAt (w : World) (b : Nat) (ps : List Nat) : Prop := ∃ lv iv, w.heap[b]? = some (.cells #[lv, .bool (zN (prodL ps)), .string (zT (prodL ps)), iv, .bool true] 70) ∧ w.reads w.heap.size lv (ps.map u32V) ∧ w.rows u32V w.heap.size iv (invRows ps)
theorem SysAt.below {w w' : World} {b : Nat} {ps : List Nat} (h : SysAt w b ps) (hb : Below w.heap.size w w') : SysAt w' b ps := by
  obtain ⟨lv, iv, h1, h2, h3⟩ := h
  exact ⟨lv, iv, (hb.block _ (lt_of_heap h1)).trans h1, (h2.below hb).mono hb.size, (h3.below hb).mono hb.size⟩
theorem SysAt.drewN {w : World} {b : Nat} {ps : List Nat} (h : SysAt w b ps) (n : Nat) : SysAt (w.drewN n) b ps := h
theorem SysAt.drew {w : World} {b : Nat} {ps : List Nat} (h : SysAt w b ps) : SysAt w.drew b ps := h
theorem SysAt.alloc {w : World} {b : Nat} {ps : List Nat} (h : SysAt w b ps) (o : Obj) : SysAt (w.alloc o) b ps := h.below ((Below.refl _ _).alloc (Nat.le_refl _) _)
theorem five_sys {w : World} {b : Nat} {v0 v1 v2 v3 v4 : Value} {T : TypeId} (h : w.heap[b]? = some (.cells #[v0, v1, v2, v3, v4] T)) :
    w.cell? ⟨b, 0, none⟩ = some v0 ∧ w.cell? ⟨b, 1, none⟩ = some v1 ∧ w.cell? ⟨b, 2, none⟩ = some v2 ∧ w.cell? ⟨b, 3, none⟩ = some v3 ∧ w.cell? ⟨b, 4, none⟩ = some v4 ∧
    w.frozen? ⟨b, 0, none⟩ = false ∧ w.frozen? ⟨b, 1, none⟩ = false ∧ w.frozen? ⟨b, 2, none⟩ = false ∧ w.frozen? ⟨b, 3, none⟩ = false :=
  ⟨by rw [cell_of_row w b 0 _ _ (0, 0) h]; rfl, by rw [cell_of_row w b 1 _ _ (0, 0) h]; rfl, by rw [cell_of_row w b 2 _ _ (0, 0) h]; rfl, by rw [cell_of_row w b 3 _ _ (0, 0) h]; rfl, by rw [cell_of_row w b 4 _ _ (0, 0) h]; rfl,
   by simp [World.frozen?, h], by simp [World.frozen?, h], by simp [World.frozen?, h], by simp [World.frozen?, h]⟩
theorem none_sys (b : Nat) (ps : List Nat) (w : World) (h : SysAt w b ps) : Calls Try.prog 38 #[.pointer (some ⟨b, 0, none⟩)] w fun e w' => e = .returned (.bool false) ∧ w = w' := by
  obtain ⟨lv, iv, h1, -, -⟩ := h
  obtain ⟨-, -, -, -, c4, -⟩ := five_sys h1
  clear h1
  go_enter Try.func38, Try.ntmps38
  go_wp2
  go_ret
  exact ⟨rfl, rfl⟩
theorem rowP_to {ps rs : List Nat} (h : ∀ j, j < ps.length → ∀ p r : Nat, ps[j]? = some p → rs[j]? = some r → r < p) (hl : rs.length = ps.length) : RowP ps rs :=
  ⟨hl, fun i p r hp hr => h i (List.getElem?_eq_some_iff.1 hp).1 p r hp hr⟩
set_option maxHeartbeats 4000000 in
theorem row_any (b : Nat) (ps rs : List Nat) (rv : Value) (w : World) (hs : SysAt w b ps) (hr : w.reads w.heap.size rv (rs.map u32V)) (ok : Bool) (hok : ok = true ↔ RowP ps rs) :
    Calls Try.prog 39 #[.pointer (some ⟨b, 0, none⟩), rv] w fun e w' => e = .returned (.bool ok) ∧ w = w' := by
  obtain ⟨lv, iv, h1, h2, -⟩ := hs
  obtain ⟨c0, -⟩ := five_sys h1
  have hl1 := hr.le_map
  have hl2 := h2.le_map
  obtain ⟨ra, rc, rfl, hrc, hrm, hrs⟩ := reads_u32 hr
  obtain ⟨pa, pc, rfl, hpc, hpm, hps⟩ := reads_u32 h2
  have HOK := Lib.hid hok
  have HR := Lib.hid hrs
  have HS := Lib.hid hps
  clear h1 h2 hr hrs hps hok
  by_cases hlen : rs.length = ps.length
  · have HLEN := Lib.hid hlen
    obtain ⟨n, hn⟩ : ∃ n, n = ps.length := ⟨_, rfl⟩
    rw [hlen, ← hn] at hl1 hrc ⊢
    rw [← hn] at hpc hl2 c0
    have HN := Lib.hid hn
    clear hlen hn
    have t0 : ((n : Int) != (n : Int)) = false := by simp
    go_enter Try.func39, Try.ntmps39
    go_wp2_with fail
    go_loop [17] (fun iv => ∃ k : Nat, k ≤ n ∧ iv = .int .i64 (k : Int) ∧ Hid (∀ j, j < k → ∀ p r : Nat, ps[j]? = some p → rs[j]? = some r → r < p)) (fun iv => n - (intOf iv).toNat)
    case atStart => exact ⟨0, Nat.zero_le _, rfl, fun j hj => by omega⟩
    case round =>
      obtain ⟨k, hk, rfl, hall⟩ := hrel
      by_cases hlt : k < n
      · have hkp : k < ps.length := by rw [← HN.out]; exact hlt
        have hkr : k < rs.length := by rw [HLEN.out]; exact hkp
        obtain ⟨p, hp⟩ : ∃ p, ps[k]? = some p := ⟨ps[k], List.getElem?_eq_getElem hkp⟩
        obtain ⟨r, hr⟩ : ∃ r, rs[k]? = some r := ⟨rs[k], List.getElem?_eq_getElem hkr⟩
        obtain ⟨b1, o1, rfl, _, d1⟩ := HR.out k r hr
        obtain ⟨b2, o2, rfl, _, d2⟩ := HS.out k p hp
        have HP := Lib.hid hp
        have HRR := Lib.hid hr
        clear hp hr hkp hkr
        by_cases hrp : r < p
        · have hnge : ¬ (p : Int) ≤ (r : Int) := by omega
          have HALL : Hid (∀ j, j < k + 1 → ∀ p r : Nat, ps[j]? = some p → rs[j]? = some r → r < p) := fun j hj p' r' hp' hr' => by
            rcases (show j < k ∨ j = k by omega) with h | rfl
            · exact hall.out j h p' r' hp' hr'
            · rw [HP.out] at hp'; rw [HRR.out] at hr'
              injection hp' with hp'; injection hr' with hr'
              omega
          clear hall
          go_wp2_with fail
          go_round
          case rel => exact ⟨k + 1, by omega, by go_num, HALL.out⟩
          case measure => simp [intOf]; omega
        · have hge : (p : Int) ≤ (r : Int) := by omega
          obtain rfl : ok = false := by
            cases h : ok
            · rfl
            · exact absurd ((HOK.out.1 h).2 k p r HP.out HRR.out) hrp
          clear hall
          go_wp2
          go_ret
          exact ⟨rfl, rfl⟩
      · obtain rfl : ok = true := HOK.out.2 (rowP_to (fun j hj => hall.out j (by have := HN.out; omega)) HLEN.out)
        clear hall
        go_wp2
        go_ret
        exact ⟨rfl, rfl⟩
  · obtain rfl : ok = false := by
      cases h : ok
      · rfl
      · exact absurd (HOK.out.1 h).1 hlen
    have t0 : ((rs.length : Int) != (ps.length : Int)) = true := by rw [bne_iff_ne]; omega
    go_enter Try.func39, Try.ntmps39
    go_wp2
    go_ret
    exact ⟨rfl, rfl⟩
/-- The residues of an integer. -/
def resL (ps : List Nat) (x : Int) : List Nat := ps.map fun p : Nat => (x % (p : Int)).toNat
/-- A row that was made since w. -/
def RowRet (w : World) (rs : List Nat) (e : Ending) (w' : World) : Prop := ∃ v, e = .returned v ∧ w'.owns w.heap.size 23 1 v rs.length (rs.map u32V) ∧ Below w.heap.size w w'
theorem rowF_owns {W : World} {base g n : Nat} {f : Nat → Nat} (hg : W.heap[g]? = some (.cells (rowF f n) 23)) (hb : base ≤ g) (hn : n ≤ 100000) : W.owns base 23 1 (.slice (some ⟨g, 0, none⟩) n n) n (((List.range n).map f).map u32V) := by
  refine ⟨by simp, .inr ⟨g, n, _, (0, 0), rfl, hb, hg, okFz_zero _, Nat.le_refl _, by unfold maxLen; omega, by simp [rowF], ?_⟩⟩
  simp only [rowF, Nat.mul_one]
  exact List.take_of_length_le (by simp)
theorem resL_range (ps : List Nat) (x : Int) : (List.range ps.length).map (fun i => (x % ((ps.getD i 0 : Nat) : Int)).toNat) = resL ps x := by
  unfold resL
  apply List.ext_getElem?
  intro i
  rcases Nat.lt_or_ge i ps.length with h | h
  · simp [h, List.getD]
  · rw [List.getElem?_eq_none (by simpa using h), List.getElem?_eq_none (by simpa using h)]
theorem make_words (n : Nat) (hn : n ≤ 100000) (W : World) : (Instr.makeSlice 22 (.int .i64 (n : Int)) (.int .i64 (n : Int))).run Try.prog W = .ok (.slice (some ⟨W.heap.size, 0, none⟩) n n) (W.alloc (.cells (zrow n) 23)) := make_u322 n n (Nat.le_refl _) hn W
set_option maxHeartbeats 4000000 in
theorem split_any (b : Nat) (ps : List Nat) (x : Int) (w : World) (hs : SysAt w b ps) (hsep : Sep ps) (hlen : ps.length ≤ 25) (hx : InR x) :
    Calls Try.prog 53 #[.pointer (some ⟨b, 0, none⟩), .agg #[.bool (zN x), .string (zT x)]] w (RowRet w (resL ps x)) := by
  obtain ⟨HPOST, hpost⟩ : ∃ R, R = RowRet w (resL ps x) := ⟨_, rfl⟩
  rw [← hpost]
  have HP := Lib.hid hpost
  clear hpost
  have hbw : b < w.heap.size := by obtain ⟨lv, iv, h1, _⟩ := hs; exact lt_of_heap h1
  obtain ⟨lv, iv, h1, h2, -⟩ := hs
  obtain ⟨c0, -⟩ := five_sys h1
  have hl2 := h2.le_map
  obtain ⟨pa, pc, rfl, hpc, hpm, hps⟩ := reads_u32 h2
  have HS := Lib.hid hps
  have HMOD : Hid (∀ (p r : Nat) (W : World), 0 < p → p < 4294967296 → x % (p : Int) = (r : Int) → Calls Try.prog 79 #[.agg #[.bool (zN x), .string (zT x)], .int .u32 (p : Int)] W fun e w' => e = .returned (.tuple #[.int .u32 (r : Int), .int .i64 0]) ∧ Below W.heap.size W w') := fun p r W h0 h1 h2 => Mod_z x p r hx h0 h1 h2 W
  have HSEP := Lib.hid hsep
  obtain ⟨xb, hxb⟩ : ∃ z, z = zN x := ⟨_, rfl⟩
  obtain ⟨xt, hxt⟩ : ∃ z, z = zT x := ⟨_, rfl⟩
  rw [← hxb, ← hxt] at HMOD ⊢
  obtain ⟨n, hn⟩ : ∃ n, n = ps.length := ⟨_, rfl⟩
  rw [← hn] at hpc hl2 c0 hlen
  have HN := Lib.hid hn
  have hmk := make_words n (by omega)
  have HC0 := Lib.hid c0
  clear h1 h2 hps hn hxb hxt hsep
  go_enter Try.func53, Try.ntmps53
  go_wp2_with fail
  have hc0' : ((w.alloc (.cells #[.bool xb, .string xt] 38)).alloc (.cells (zrow n) 23)).heap[w.heap.size]? = some (.cells #[.bool xb, .string xt] 38) := by rw [Below.heap_alloc _ _ _ (by simp)]; exact heap_alloc_new w _
  have hg0 : ((w.alloc (.cells #[.bool xb, .string xt] 38)).alloc (.cells (zrow n) 23)).heap[w.heap.size + 1]? = some (.cells (zrow n) 23) := alloc_last _ _ (by simp)
  have hb0 : Below w.heap.size w ((w.alloc (.cells #[.bool xb, .string xt] 38)).alloc (.cells (zrow n) 23)) := ((Below.refl _ _).alloc (Nat.le_refl _) _).alloc (by simp) _
  go_loopw [19] (fun iv wr => ∃ k : Nat, k ≤ n ∧ iv = .int .i64 (k : Int) ∧ Hid (wr.heap[w.heap.size]? = some (.cells #[.bool xb, .string xt] 38)) ∧ Hid (wr.heap[w.heap.size + 1]? = some (.cells (rowF (fun i => if i < k then (x % ((ps.getD i 0 : Nat) : Int)).toNat else 0) n) 23)) ∧ Hid (Below w.heap.size w wr)) (fun iv _ => n - (intOf iv).toNat)
  case atStart => exact ⟨0, Nat.zero_le _, rfl, hc0', by show _ = _; rw [hg0, rowF_congr (f' := fun _ => 0) (fun j _ => if_neg (by omega)), rowF_zero], hb0⟩
  case round =>
    obtain ⟨k, hk, rfl, hx0, hg, hb⟩ := hrel
    clear hc0' hg0 hb0
    by_cases hlt : k < n
    · have hkp : k < ps.length := by rw [← HN.out]; exact hlt
      obtain ⟨p, hp⟩ : ∃ p, ps[k]? = some p := ⟨ps[k], List.getElem?_eq_getElem hkp⟩
      obtain ⟨b2, o2, rfl, hb2l, d2⟩ := HS.out k p hp
      obtain ⟨p1, p2, p3, p4⟩ := HSEP.out k p hp
      have hp0 : 0 < p := by have := p1.1; omega
      have hpb : p < 4294967296 := by omega
      have d2' := (hb.out.cell (p := ⟨b2, o2 + k, none⟩) hb2l).trans d2
      obtain ⟨r, hr⟩ : ∃ r : Nat, r = (x % (p : Int)).toNat := ⟨_, rfl⟩
      have hr0 := Int.emod_nonneg x (show (p : Int) ≠ 0 by omega)
      have hr1 := Int.emod_lt_of_pos x (show (0 : Int) < p by omega)
      have hxr : x % (p : Int) = (r : Int) := by omega
      have hrp : r < p := by omega
      have HM := Lib.hid (fun W => HMOD.out p r W hp0 hpb hxr)
      obtain ⟨x0, x1, -⟩ := wide_cells hx0.out
      have HGET : Hid (r = (x % ((ps.getD k 0 : Nat) : Int)).toNat) := by show _ = _; rw [hr, getD_some hp]
      clear p1 p2 p3 p4 hr hr0 hr1 hxr d2 hp hkp
      go_wp2_with fail
      (with_reducible refine (HM.out _).mono ?_)
      rintro e w1 ⟨rfl, hb1⟩
      have hg1 := (hb1.block _ (lt_of_heap hg.out)).trans hg.out
      have hx1 := (hb1.block _ (lt_of_heap hx0.out)).trans hx0.out
      obtain ⟨gc, gf⟩ := rowF_cell hg1 k hlt
      have HG1 := Lib.hid hg1
      have HX1 := Lib.hid hx1
      have HB1 := Lib.hid (hb.out.trans (hb1.mono hb.out.size))
      clear hg1 hx1 hb1 x0 x1 d2'
      go_wp2_with fail
      go_roundw
      case rel =>
        refine ⟨k + 1, by omega, by go_num, ?_, ?_, HB1.out.setCell (by simp) _⟩
        · show _ = _
          rw [Below.heap_setCell _ _ _ _ (by simp)]; exact HX1.out
        · show _ = _
          have h5 := rowF_set (k := k) (f' := fun i => if i < k + 1 then (x % ((ps.getD i 0 : Nat) : Int)).toNat else 0) HG1.out (fun j hj hne => by
            by_cases h : j < k
            · rw [if_pos h, if_pos (by omega)]
            · rw [if_neg h, if_neg (by omega)])
          rw [show (if k < k + 1 then (x % ((ps.getD k 0 : Nat) : Int)).toNat else 0) = r by rw [if_pos (by omega)]; exact HGET.out.symm] at h5
          exact h5
      case measure => simp [intOf]; omega
    · obtain rfl : k = n := by omega
      have hg2 := hg.out
      rw [rowF_congr (f' := fun i => (x % ((ps.getD i 0 : Nat) : Int)).toNat) (fun j hj => if_pos hj)] at hg2
      have HO := Lib.hid (rowF_owns (base := w.heap.size) hg2 (by omega) (by omega))
      clear hg2 hg hx0
      go_wp2
      rw [HP.out]
      refine ⟨_, rfl, ?_, hb.out⟩
      have h6 := HO.out
      rw [HN.out, resL_range] at h6
      rw [show (resL ps x).length = ps.length by simp [resL]]
      rwa [HN.out]
end Go.Proofs.Ytnjblppapmflhaa

/- Walks: digits of mixed radix. -/
namespace Go.Proofs.Ytnjblppapmflhaa
set_option linter.all false
open Go.RowKit Go.Shelf Go.WideNum PN
theorem one_cell {W : World} {b : Nat} {v : Value} {T : TypeId} (h : W.heap[b]? = some (.cells #[v] T)) : W.cell? ⟨b, 0, none⟩ = some v ∧ W.frozen? ⟨b, 0, none⟩ = false :=
  ⟨by rw [cell_of_row W b 0 _ _ (0, 0) h]; rfl, by simp [World.frozen?, h]⟩
theorem one_set {W : World} {b : Nat} {v u : Value} {T : TypeId} (h : W.heap[b]? = some (.cells #[v] T)) : (W.setCell ⟨b, 0, none⟩ u).heap[b]? = some (.cells #[u] T) := by
  simp [World.setCell, Array.getElem?_modify, h]
theorem set_other {W : World} {b k o : Nat} {u : Value} {X : Option Obj} (h : W.heap[k]? = X) (hne : k ≠ b) : (W.setCell ⟨b, o, none⟩ u).heap[k]? = X := by
  rw [Below.heap_setCell _ _ _ _ (by simpa using hne)]; exact h
set_option maxHeartbeats 4000000 in
theorem step1_any (pd pmm po pss pi g n b k i d m o iv B : Nat) (ra : Option Addr) (rc il ic : Nat) (ib io rb ro : Nat) (rl : Nat) (w : World)
    (cd : w.cell? ⟨pd, 0, none⟩ = some (.int .u64 (d : Int))) (fd : w.frozen? ⟨pd, 0, none⟩ = false) (cm : w.cell? ⟨pmm, 0, none⟩ = some (.int .u64 (m : Int)))
    (co : w.cell? ⟨po, 0, none⟩ = some (.slice (some ⟨g, 0, none⟩) n n)) (cs : w.cell? ⟨pss, 0, none⟩ = some (.pointer (some ⟨b, 0, none⟩))) (ci : w.cell? ⟨pi, 0, none⟩ = some (.int .i64 (i : Int)))
    (ck : w.cell? ⟨g, k, none⟩ = some (.int .u32 (o : Int))) (cv : w.cell? ⟨b, 3, none⟩ = some (.slice (some ⟨ib, io, none⟩) il ic))
    (cr : w.cell? ⟨ib, io + i, none⟩ = some (.slice (some ⟨rb, ro, none⟩) rl rc)) (cx : w.cell? ⟨rb, ro + k, none⟩ = some (.int .u32 (iv : Int)))
    (hk : k < n) (hn : n ≤ 100) (hi : i < il) (hic : il ≤ ic) (hil : il ≤ 100) (hkr : k < rl) (hrl : rl ≤ 100) (hrc : rl ≤ rc) (hd : d < m) (hm0 : 2 ≤ m) (hm : m ≤ 2147483647) (ho : o < 4294967296) (hiv : iv < m) (z : Nat) (hz : z = (d + m - o % m) % m * iv % m) :
    Calls Try.prog 94 #[.int .i64 (k : Int), .pointer (some ⟨pd, 0, none⟩), .pointer (some ⟨pmm, 0, none⟩), .pointer (some ⟨po, 0, none⟩), .pointer (some ⟨pss, 0, none⟩), .pointer (some ⟨pi, 0, none⟩)] w
      fun e w' => (∃ v, e = .returned v) ∧ ∃ nq, w' = (w.setCell ⟨pd, 0, none⟩ (.int .u64 (z : Int))).drewN nq := by
  have h0 : ((m : Int) == 0) = false := by rw [beq_eq_false_iff_ne]; omega
  have h0' : ¬ m = 0 := by omega
  have e0 : (d : Int) + (m : Int) = ((d + m : Nat) : Int) := by omega
  obtain ⟨dm, edm⟩ : ∃ y, y = d + m := ⟨_, rfl⟩
  obtain ⟨om, eom⟩ : ∃ y, y = o % m := ⟨_, rfl⟩
  obtain ⟨df, edf⟩ : ∃ y, y = dm - om := ⟨_, rfl⟩
  obtain ⟨dr, edr⟩ : ∃ y, y = df % m := ⟨_, rfl⟩
  obtain ⟨pr, epr⟩ : ∃ y, y = dr * iv := ⟨_, rfl⟩
  have hom : om < m := by rw [eom]; exact Nat.mod_lt _ (by omega)
  have hdr : dr < m := by rw [edr]; exact Nat.mod_lt _ (by omega)
  have hpr : pr < 2147483647 * 2147483647 := by rw [epr]; exact Nat.mul_lt_mul'' (by omega) (by omega)
  have hz2 : z = pr % m := by rw [hz, epr, edr, edf, eom, edm]
  have f1 : IntKind.u64.wrap ((d : Int) + (m : Int)) = (dm : Int) := by rw [IntKind.wrap_u64]; omega
  have f2 : IntKind.u64.wrap (o : Int) = (o : Int) := by rw [IntKind.wrap_u64]; omega
  have f3 : (o : Int).tmod (m : Int) = (om : Int) := by rw [Int.tmod_eq_emod_of_nonneg (by omega), eom, Int.natCast_emod]
  have f4 : IntKind.u64.wrap ((dm : Int) - (om : Int)) = (df : Int) := by rw [IntKind.wrap_u64]; omega
  have f5 : (df : Int).tmod (m : Int) = (dr : Int) := by rw [Int.tmod_eq_emod_of_nonneg (by omega), edr, Int.natCast_emod]
  have f6 : IntKind.u64.wrap (iv : Int) = (iv : Int) := by rw [IntKind.wrap_u64]; omega
  have f7 : IntKind.u64.wrap ((dr : Int) * (iv : Int)) = (pr : Int) := by
    rw [show ((dr : Int) * (iv : Int)) = (pr : Int) by rw [epr]; simp, IntKind.wrap_u64]; omega
  have f8 : (pr : Int).tmod (m : Int) = (z : Int) := by rw [Int.tmod_eq_emod_of_nonneg (by omega), hz2, Int.natCast_emod]
  have g1 : (k : Int) < (n : Int) := by omega
  have g2 : (i : Int) < (il : Int) := by omega
  have g3 : (k : Int) < (rl : Int) := by omega
  have g4 : (0 : Int) ≤ (k : Int) := by omega
  have g5 : (0 : Int) ≤ (i : Int) := by omega
  clear hz hz2 epr edr edf eom edm e0
  go_enter Try.func94, Try.ntmps94
  go_wp2_with fail
  with_reducible first | refine wp_region_quiet_tail_at 27 (by kernel_rfl) (by kernel_rfl) ?_ | refine wp_region_quiet_tail_lit 27 (by kernel_rfl) (by kernel_rfl) ?_
  simp only [List.take_succ_cons, List.take_zero, List.drop_succ_cons, List.drop_zero]
  repeat (go_big_quiet_step (fail))
  refine wpQuiet_nil ?_
  rintro _ ⟨nq, rfl⟩
  have cd2 : (w.drewN nq).cell? ⟨pd, 0, none⟩ = some (.int .u64 (d : Int)) := cd
  have fd2 : (w.drewN nq).frozen? ⟨pd, 0, none⟩ = false := fd
  go_wp2
  go_end0
  exact ⟨⟨_, rfl⟩, nq, rfl⟩
def dgrow (ps rs : List Nat) (n k : Nat) : Array Value := rowF (fun i => if i < k then dgt ps rs i else 0) n
theorem dgrow_zero (ps rs : List Nat) (n : Nat) : dgrow ps rs n 0 = zrow n := by unfold dgrow; rw [rowF_congr (f' := fun _ => 0) (fun j _ => if_neg (by omega)), rowF_zero]
/-- The first k digits are laid. -/
structure DgSt (w wr : World) (b n : Nat) (ps rs : List Nat) (k : Nat) : Prop where
  h0 : wr.heap[w.heap.size]? = some (.cells #[.pointer (some ⟨b, 0, none⟩)] 99)
  h1 : wr.heap[w.heap.size + 1]? = some (.cells (dgrow ps rs n k) 23)
  h2 : wr.heap[w.heap.size + 2]? = some (.cells #[.slice (some ⟨w.heap.size + 1, 0, none⟩) n n] 22)
  bel : Below w.heap.size w wr
theorem DgSt.below {w wr w' : World} {b n k : Nat} {ps rs : List Nat} (h : DgSt w wr b n ps rs k) (hs : w.heap.size + 3 ≤ wr.heap.size) (hb : Below wr.heap.size wr w') : DgSt w w' b n ps rs k :=
  ⟨(hb.block _ (by omega)).trans h.h0, (hb.block _ (by omega)).trans h.h1, (hb.block _ (by omega)).trans h.h2, h.bel.trans (hb.mono h.bel.size)⟩
theorem DgSt.size {w wr : World} {b n k : Nat} {ps rs : List Nat} (h : DgSt w wr b n ps rs k) : w.heap.size + 3 ≤ wr.heap.size := by
  have := lt_of_heap h.h2; omega
theorem DgSt.set {w wr : World} {b n k : Nat} {ps rs : List Nat} (h : DgSt w wr b n ps rs k) {g o : Nat} (hg : w.heap.size + 3 ≤ g) (u : Value) : DgSt w (wr.setCell ⟨g, o, none⟩ u) b n ps rs k :=
  ⟨set_other h.h0 (by omega), set_other h.h1 (by omega), set_other h.h2 (by omega), h.bel.setCell (by simp; omega) _⟩
theorem DgSt.drewN {w wr : World} {b n k : Nat} {ps rs : List Nat} (h : DgSt w wr b n ps rs k) (m : Nat) : DgSt w (wr.drewN m) b n ps rs k := ⟨h.h0, h.h1, h.h2, below_drewN h.bel m⟩
theorem invRows_get {ps : List Nat} {i p : Nat} (hp : ps[i]? = some p) : (invRows ps)[i]? = some ((ps.take i).map fun q => invN (q % p) p) := by
  have hil : i < ps.length := (List.getElem?_eq_some_iff.1 hp).1
  unfold invRows invRow
  rw [List.getElem?_map, List.getElem?_range hil]
  simp only [Option.map_some, getD_some hp]
theorem DgSt.push {w wr : World} {b n k : Nat} {ps rs : List Nat} (h : DgSt w wr b n ps rs k) : DgSt w (wr.setCell ⟨w.heap.size + 1, k, none⟩ (.int .u32 (dgt ps rs k : Int))) b n ps rs (k + 1) := by
  refine ⟨set_other h.h0 (by omega), ?_, set_other h.h2 (by omega), h.bel.setCell (by simp) _⟩
  have h5 := rowF_set (k := k) (f' := fun i => if i < k + 1 then dgt ps rs i else 0) h.h1 (fun j hj hne => by
    by_cases h : j < k
    · rw [if_pos h, if_pos (by omega)]
    · rw [if_neg h, if_neg (by omega)])
  rw [show (if k < k + 1 then dgt ps rs k else 0) = dgt ps rs k by rw [if_pos (by omega)]] at h5
  exact h5
/-- Within a round: the residue under way. -/
structure InSt (w wr : World) (b n : Nat) (ps rs : List Nat) (k q0 p r j : Nat) : Prop where
  dg : DgSt w wr b n ps rs k
  h0 : wr.heap[q0]? = some (.cells #[.int .i64 (k : Int)] 3)
  h1 : wr.heap[q0 + 1]? = some (.cells #[.int .u64 (p : Int)] 89)
  h2 : wr.heap[q0 + 2]? = some (.cells #[.int .u64 (gfold p (ps.take j) (digL ps rs j) r : Int)] 89)
theorem InSt.set {w wr : World} {b n : Nat} {ps rs : List Nat} {k q0 p r j : Nat} (h : InSt w wr b n ps rs k q0 p r j) (hq : w.heap.size + 3 ≤ q0) :
    InSt w (wr.setCell ⟨q0 + 2, 0, none⟩ (.int .u64 (gfold p (ps.take (j + 1)) (digL ps rs (j + 1)) r : Int))) b n ps rs k q0 p r (j + 1) :=
  ⟨h.dg.set (by omega) _, set_other h.h0 (by omega), set_other h.h1 (by omega), one_set h.h2⟩
theorem InSt.drewN {w wr : World} {b n : Nat} {ps rs : List Nat} {k q0 p r j : Nat} (h : InSt w wr b n ps rs k q0 p r j) (m : Nat) : InSt w (wr.drewN m) b n ps rs k q0 p r j := ⟨h.dg.drewN m, h.h0, h.h1, h.h2⟩
set_option maxHeartbeats 8000000 in
theorem digits_any (b : Nat) (ps rs : List Nat) (rv : Value) (w : World) (hs : SysAt w b ps) (hsep : Sep ps) (hlen : ps.length ≤ 25) (hr : w.reads w.heap.size rv (rs.map u32V)) (hrow : RowP ps rs) :
    Calls Try.prog 80 #[.pointer (some ⟨b, 0, none⟩), rv] w (RowRet w (digL ps rs ps.length)) := by
  obtain ⟨HPOST, hpost⟩ : ∃ R, R = RowRet w (digL ps rs ps.length) := ⟨_, rfl⟩
  rw [← hpost]
  have HP := Lib.hid hpost
  clear hpost
  obtain ⟨lv, iv, h1, h2, h3⟩ := hs
  have hbw := lt_of_heap h1
  obtain ⟨c0, -, -, c3, -⟩ := five_sys h1
  have hl2 := h2.le_map
  have hl1 := hr.le_map
  obtain ⟨pa, pc, rfl, hpc, hpm, hps⟩ := reads_u32 h2
  obtain ⟨ra, rc, rfl, hrc, hrm, hrs⟩ := reads_u32 hr
  obtain ⟨ia, ic, rfl, hic, him, hi3⟩ := h3.shape
  have HS := Lib.hid hps
  have HR := Lib.hid hrs
  have HI := Lib.hid hi3
  have HSEP := Lib.hid hsep
  have HROW := Lib.hid hrow
  have hlr := hrow.1
  have hli : (invRows ps).length = ps.length := by simp [invRows]
  obtain ⟨n, hn⟩ : ∃ n, n = ps.length := ⟨_, rfl⟩
  rw [hli, ← hn] at hic c3
  rw [hlr, ← hn] at hrc hl1 ⊢
  rw [← hn] at hpc hl2 c0 hlen
  have HN := Lib.hid hn
  have HLR := Lib.hid hlr
  have hmk := make_words n (by omega)
  have HC0 := Lib.hid c0
  have HC3 := Lib.hid c3
  clear h1 h2 h3 hr hps hrs hi3 hn hlr hli hsep hrow c3
  have HBW := Lib.hid hbw
  go_enter Try.func80, Try.ntmps80
  go_upto_region 2 with (fail)
  generalize hwa : ((w.alloc (.cells #[.pointer (some ⟨b, 0, none⟩)] 99)).alloc (.cells (zrow n) 23)).alloc (.cells #[.slice (some ⟨w.heap.size + 1, 0, none⟩) n n] 22) = wa
  have hst : DgSt w wa b n ps rs 0 := by
    refine ⟨?_, ?_, ?_, ?_⟩
    · rw [← hwa, Below.heap_alloc _ _ _ (by simp; omega), Below.heap_alloc _ _ _ (by simp)]; exact heap_alloc_new w _
    · rw [← hwa, Below.heap_alloc _ _ _ (by simp), dgrow_zero]; exact alloc_last _ _ (by simp)
    · rw [← hwa]; exact alloc_last _ _ (by simp)
    · rw [← hwa]; exact (((Below.refl _ _).alloc (Nat.le_refl _) _).alloc (by simp) _).alloc (by simp; omega) _
  have hsz : w.heap.size + 3 ≤ wa.heap.size := by rw [← hwa]; simp
  clear hwa c0
  have HST := Lib.hid hst
  have HSZ := Lib.hid hsz
  have c0 := (hst.bel.cell (p := ⟨b, 0, none⟩) hbw).trans HC0.out
  obtain ⟨s0, -⟩ := one_cell hst.h0
  clear hst hsz hbw
  go_wp2_with fail
  clear c0 s0
  go_loopw [20] (fun iv wr => ∃ k : Nat, k ≤ n ∧ iv = .int .i64 (k : Int) ∧ Hid (DgSt w wr b n ps rs k)) (fun iv _ => n - (intOf iv).toNat)
  case atStart => exact ⟨0, Nat.zero_le _, rfl, HST.out⟩
  case round =>
    obtain ⟨k, hk, rfl, hS⟩ := hrel
    obtain ⟨wo, rfl⟩ : ∃ x, x = wr := ⟨_, rfl⟩
    by_cases hlt : k < n
    · have hkp : k < ps.length := by rw [← HN.out]; exact hlt
      have hkr : k < rs.length := by rw [HLR.out]; exact hkp
      obtain ⟨p, hp⟩ : ∃ p, ps[k]? = some p := ⟨ps[k], List.getElem?_eq_getElem hkp⟩
      obtain ⟨r, hr⟩ : ∃ r, rs[k]? = some r := ⟨rs[k], List.getElem?_eq_getElem hkr⟩
      obtain ⟨b2, o2, rfl, hb2l, d2⟩ := HS.out k p hp
      obtain ⟨b1, o1, rfl, hb1l, d1⟩ := HR.out k r hr
      obtain ⟨ib, io, rb2, rc2, rfl, hibl, hic2, hrd⟩ := HI.out k _ (invRows_get hp)
      have e2 := (hS.out.bel.cell (p := ⟨b2, o2 + k, none⟩) hb2l).trans d2
      have e1 := (hS.out.bel.cell (p := ⟨b1, o1 + k, none⟩) hb1l).trans d1
      obtain ⟨p1, p2, p3, p4⟩ := HSEP.out k p hp
      have hp2 : 2 ≤ p := p1.1
      have hrp : r < p := HROW.out.2 k p r hp hr
      have hrow := garner_in HSEP.out HROW.out hp hr
      have hdk := dgt_eq hp hr
      have HRD := Lib.hid hrd
      have HIC2 := Lib.hid hic2
      have HGI := Lib.hid hrow
      have HDK := Lib.hid hdk
      have HP2 := Lib.hid hp
      have w1 : IntKind.u64.wrap (p : Int) = (p : Int) := by rw [IntKind.wrap_u64]; omega
      have w2 : IntKind.u64.wrap (r : Int) = (r : Int) := by rw [IntKind.wrap_u64]; omega
      have w3 : (k : Int) < (n : Int) := by omega
      have hsz := hS.out.size
      have lt1 : b1 < wo.heap.size := by omega
      have lt2 : b1 < wo.heap.size + 1 := by omega
      have lt3 : b1 < wo.heap.size + 1 + 1 := by omega
      have ne1 : ¬ b1 = wo.heap.size := by omega
      have ne2 : ¬ b1 = wo.heap.size + 1 := by omega
      clear d1 d2 hrd hic2 hrow hdk p4 hp hr hkp hkr p1 p2
      go_upto_region 8 with (fail)
      generalize hwb : ((wo.alloc (.cells #[.int .i64 (k : Int)] 3)).alloc (.cells #[.int .u64 (p : Int)] 89)).alloc (.cells #[.int .u64 (r : Int)] 89) = wb
      have hg0 : wb.heap[wo.heap.size]? = some (.cells #[.int .i64 (k : Int)] 3) := by rw [← hwb, Below.heap_alloc _ _ _ (by simp; omega), Below.heap_alloc _ _ _ (by simp)]; exact heap_alloc_new wo _
      have hg1 : wb.heap[wo.heap.size + 1]? = some (.cells #[.int .u64 (p : Int)] 89) := by rw [← hwb, Below.heap_alloc _ _ _ (by simp)]; exact alloc_last _ _ (by simp)
      have hg2 : wb.heap[wo.heap.size + 2]? = some (.cells #[.int .u64 (r : Int)] 89) := by rw [← hwb]; exact alloc_last _ _ (by simp)
      have hwob : Below wo.heap.size wo wb := by rw [← hwb]; exact (((Below.refl _ _).alloc (Nat.le_refl _) _).alloc (by simp) _).alloc (by simp; omega) _
      have hDS := hS.out.below hsz hwob
      obtain ⟨q0, hq0⟩ : ∃ q0, q0 = wo.heap.size := ⟨_, rfl⟩
      rw [← hq0] at hg0 hg1 hg2 ⊢
      have hq3 : w.heap.size + 3 ≤ q0 := by rw [hq0]; exact hsz
      obtain ⟨i0, -⟩ := one_cell hg0
      have HIN : Hid (InSt w wb b n ps rs k q0 p r 0) := ⟨hDS, hg0, hg1, by rw [hg2]; simp [gfold_nil]⟩
      clear hwb hg0 hg1 hg2 hwob hDS hq0 hsz hS e1 e2
      go_wp2_with fail
      clear i0
      go_loopw [34] (fun jv wr => ∃ j : Nat, j ≤ k ∧ jv = .int .i64 (j : Int) ∧ Hid (InSt w wr b n ps rs k q0 p r j)) (fun jv _ => k - (intOf jv).toNat)
      case atStart => exact ⟨0, Nat.zero_le _, rfl, HIN.out⟩
      case round =>
        obtain ⟨j, hj, rfl, hI⟩ := hrel
        by_cases hjk : j < k
        · obtain ⟨q, hq⟩ : ∃ q, ps[j]? = some q := ⟨ps[j]'(by have := HN.out; omega), List.getElem?_eq_getElem _⟩
          obtain ⟨iw, hiw⟩ : ∃ x, x = invN (q % p) p := ⟨_, rfl⟩
          have hrowj : ((ps.take k).map fun q => invN (q % p) p)[j]? = some iw := by rw [List.getElem?_map, List.getElem?_take, if_pos hjk, hq, hiw]; rfl
          obtain ⟨a3, c3', hsl, h31, h32, h33⟩ := reads_u32 HRD.out
          obtain ⟨b3, o3, rfl, hb3l, d3⟩ := h33 j iw hrowj
          injection hsl with hsl1 hsl2 hsl3
          have hrl : ((ps.take k).map fun q => invN (q % p) p).length = k := by rw [List.length_map, List.length_take]; have := HN.out; omega
          obtain ⟨g1, g2⟩ := HGI.out j (by omega)
          obtain ⟨d, hd⟩ : ∃ d, d = gfold p (ps.take j) (digL ps rs j) r := ⟨_, rfl⟩
          rw [← hd] at g1
          obtain ⟨-, i2, -⟩ := invN_spec hp2 (by omega) (Nat.mod_lt q (by omega)) (HSEP.out.gcd_mod HP2.out hq hjk)
          obtain ⟨i1, -, -⟩ := invN_spec hp2 (by omega) (Nat.mod_lt q (by omega)) (HSEP.out.gcd_mod HP2.out hq hjk)
          rw [← hiw] at i1
          obtain ⟨k0, -⟩ := one_cell hI.out.h0
          obtain ⟨k1, -⟩ := one_cell hI.out.h1
          obtain ⟨k2, k2f⟩ := one_cell hI.out.h2
          rw [← hd] at k2
          obtain ⟨m0, -⟩ := one_cell hI.out.dg.h0
          obtain ⟨m2, -⟩ := one_cell hI.out.dg.h2
          have hdj := dgt_lt HSEP.out HROW.out hq
          obtain ⟨m1, -⟩ := rowF_cell hI.out.dg.h1 j (by omega)
          rw [if_pos hjk] at m1
          have hbl := hI.out.dg.bel
          have n1 := (hbl.cell (p := ⟨b, 3, none⟩) HBW.out).trans HC3.out
          have n2 := (hbl.cell (p := ⟨ib, io + k, none⟩) hibl).trans HIC2.out
          have n3 := (hbl.cell (p := ⟨b3, o3 + j, none⟩) hb3l).trans d3
          rw [hsl1, hrl] at n2
          obtain ⟨hqp, -, hqb, -⟩ := HSEP.out j q hq
          have hstep := step1_any (q0 + 2) (q0 + 1) (w.heap.size + 2) w.heap.size q0 (w.heap.size + 1) n b j k d p (dgt ps rs j) iw 0 (some ⟨ib, io, none⟩) rc2 n ic ib io b3 o3 k wr k2 k2f k1 m2 m0 k0 m1 n1 n2 n3 (by omega) (by omega) hlt hic (by omega) hjk (by omega) (by rw [hrl, ← hsl3] at h31; exact h31) g1 hp2 p3 (by omega) i1 (gst p q (dgt ps rs j) d) (by unfold gst; rw [hiw])
          have HSTEP := Lib.hid hstep
          have hlen2 : (ps.take j).length = (digL ps rs j).length := by rw [digL_len, List.length_take]; have := HN.out; omega
          have HNEXT : Hid (gst p q (dgt ps rs j) d = gfold p (ps.take (j + 1)) (digL ps rs (j + 1)) r) := by
            show _ = _
            rw [take_succ' hq, show digL ps rs (j + 1) = digL ps rs j ++ [dgt ps rs j] by rfl, gfold_snoc _ _ _ _ _ _ hlen2, ← hd]
          have t1 : (j : Int) < (k : Int) := by omega
          clear hstep n1 n2 n3 m0 m1 m2 k0 k1 k2 k2f hbl hdj i2 g2 hd hsl1 hsl2 hsl3 hrl h31 h32 h33 d3 hrowj hiw hq hlen2 hqp hqb
          go_wp2_with fail
          (with_reducible refine (HSTEP.out).mono ?_)
          rintro e w5 ⟨⟨v5, rfl⟩, nq, rfl⟩
          clear HSTEP
          go_wp2_with fail
          go_roundw
          case rel => exact ⟨j + 1, by omega, by go_num, by
            show InSt _ _ _ _ _ _ _ _ _ _ _
            rw [HNEXT.out]
            exact (hI.out.set hq3).drewN nq⟩
          case measure => simp [intOf]; omega
        · obtain rfl : j = k := by omega
          obtain ⟨k0, -⟩ := one_cell hI.out.h0
          obtain ⟨k2, k2f⟩ := one_cell hI.out.h2
          obtain ⟨m2, -⟩ := one_cell hI.out.dg.h2
          obtain ⟨m1, m1f⟩ := rowF_cell hI.out.dg.h1 j (by omega)
          rw [if_neg (by omega)] at m1
          rw [← HDK.out] at k2
          have hdl := dgt_lt HSEP.out HROW.out HP2.out
          obtain ⟨d, hd⟩ : ∃ d, d = dgt ps rs j := ⟨_, rfl⟩
          rw [← hd] at k2 hdl
          have HD := Lib.hid hd
          have hdm : (d : Int) % 4294967296 = (d : Int) := by omega
          have t2 : ¬ (j : Int) < (j : Int) := by omega
          clear hd
          go_wp2_with fail
          go_roundw
          case rel =>
            refine ⟨j + 1, by omega, by go_num, ?_⟩
            have := hI.out.dg.push
            rw [← HD.out] at this
            exact this
          case measure => simp [intOf]; omega
    · obtain rfl : k = n := by omega
      obtain ⟨m2, -⟩ := one_cell hS.out.h2
      have hg2 := hS.out.h1
      unfold dgrow at hg2
      rw [rowF_congr (f' := dgt ps rs) (fun j hj => if_pos hj)] at hg2
      have HO := Lib.hid (rowF_owns (base := w.heap.size) hg2 (by omega) (by omega))
      have t2 : ¬ (k : Int) < (k : Int) := by omega
      clear hg2
      go_wp2
      rw [HP.out]
      refine ⟨_, rfl, ?_, hS.out.bel⟩
      rw [digL_len, ← HN.out, digL_map]
      exact HO.out
end Go.Proofs.Ytnjblppapmflhaa

/- Walks: the integer of a row. -/
namespace Go.Proofs.Ytnjblppapmflhaa
set_option linter.all false
open Go.RowKit Go.Shelf Go.WideNum PN
theorem zN_nat (n : Nat) : zN ((n : Nat) : Int) = false := decide_eq_false (by omega)
/-- The number under way. -/
structure JSt (w wr : World) (xb : Bool) (xt : ByteArray) (lv : Value) (n : Nat) (ds : List Nat) : Prop where
  h0 : wr.heap[w.heap.size]? = some (.cells #[.bool false, .string ⟨#[]⟩] 38)
  h1 : wr.heap[w.heap.size + 1]? = some (.cells #[.bool xb, .string xt] 38)
  ol : wr.owns (w.heap.size + 2) 23 1 lv n (ds.map u32V)
  bel : Below w.heap.size w wr
theorem JSt.size {w wr : World} {xb : Bool} {xt : ByteArray} {lv : Value} {n : Nat} {ds : List Nat} (h : JSt w wr xb xt lv n ds) : w.heap.size + 2 ≤ wr.heap.size := by
  have := lt_of_heap h.h1; omega
theorem JSt.below {w wr w' : World} {xb : Bool} {xt : ByteArray} {lv : Value} {n : Nat} {ds : List Nat} (h : JSt w wr xb xt lv n ds) (hb : Below wr.heap.size wr w') : JSt w w' xb xt lv n ds := by
  have hs := h.size
  exact ⟨(hb.block _ (by omega)).trans h.h0, (hb.block _ (by omega)).trans h.h1, h.ol.below hb, h.bel.trans (hb.mono h.bel.size)⟩
theorem JSt.set {w wr : World} {xb : Bool} {xt : ByteArray} {lv : Value} {n : Nat} {ds : List Nat} (h : JSt w wr xb xt lv n ds) (yb : Bool) (yt : ByteArray) : JSt w ((wr.setCell ⟨w.heap.size + 1, 0, none⟩ (.bool yb)).setCell ⟨w.heap.size + 1, 1, none⟩ (.string yt)) yb yt lv n ds := by
  refine ⟨?_, wide_set h.h1 _ _, ?_, ?_⟩
  · exact (wide_other (W := wr) (p := w.heap.size) (q := w.heap.size + 1) (by omega) _ _).trans h.h0
  · exact (h.ol.setCell (by simp) _).setCell (by simp) _
  · exact (h.bel.setCell (by simp) _).setCell (by simp) _
set_option maxRecDepth 100000 in
set_option maxHeartbeats 8000000 in
theorem join_any (b : Nat) (ps rs : List Nat) (rv : Value) (x : Nat) (w : World) (hs : SysAt w b ps) (hsys : SysP ps) (hr : w.reads w.heap.size rv (rs.map u32V)) (hrow : RowP ps rs) (hx : IsCrt ps rs x) (fb : Bool) (ft : ByteArray) (hfb : fb = zN (balZ x (prodL ps : Nat))) (hft : ft = zT (balZ x (prodL ps : Nat))) :
    Calls Try.prog 54 #[.pointer (some ⟨b, 0, none⟩), rv] w fun e w' => e = .returned (.agg #[.bool fb, .string ft]) ∧ Below w.heap.size w w' := by
  obtain ⟨HPOST, hpost⟩ : ∃ R : Ending → World → Prop, R = fun e w' => e = .returned (.agg #[.bool fb, .string ft]) ∧ Below w.heap.size w w' := ⟨_, rfl⟩
  rw [← hpost]
  have HP := Lib.hid hpost
  clear hpost
  have hsep := hsys.sep
  have hlen := hsys.2.1
  have hn1 := hsys.1
  have hdig := fun (W : World) (h1 : SysAt W b ps) (h2 : W.reads W.heap.size rv (rs.map u32V)) => digits_any b ps rs rv W h1 hsep hlen h2 hrow
  have hval : mvL ps (digL ps rs ps.length) = x := (garner_all hsep hrow).uniq hsep hrow.1 hx
  have hdl : ∀ i p : Nat, ps[i]? = some p → dgt ps rs i < p := fun i p hp => dgt_lt hsep hrow hp
  obtain ⟨ds, hds⟩ : ∃ ds, ds = digL ps rs ps.length := ⟨_, rfl⟩
  rw [← hds] at hdig hval
  have hdsl : ds.length = ps.length := by rw [hds, digL_len]
  have hdget : ∀ i, i < ps.length → ds[i]? = some (dgt ps rs i) := fun i hi => by rw [hds]; exact digL_get ps rs hi
  have hQ : prodL ps ≤ 4294967296 ^ 25 := Nat.le_trans (prodL_lt (fun p hp => by have := (hsep.mem hp).2.2; omega)) (Nat.pow_le_pow_right (by omega) hlen)
  have hbound : ∀ k, mvL (ps.drop k) (ds.drop k) < prodL (ps.drop k) := fun k => by
    refine mvL_lt _ _ (fun p hp => (hsep.mem (List.mem_of_mem_drop hp)).1.pos) (fun i p d hp hd => ?_)
    rw [List.getElem?_drop] at hp hd
    have hi : k + i < ps.length := (List.getElem?_eq_some_iff.1 hp).1
    rw [hdget _ hi] at hd
    injection hd with hd
    rw [← hd]; exact hdl _ _ hp
  have hbound2 : ∀ k, k ≤ ps.length → mvL (ps.drop k) (ds.drop k) < 4294967296 ^ (ps.length - k) := fun k hk => by
    have h1 := prodL_lt (l := ps.drop k) (fun p hp => by have := (hsep.mem (List.mem_of_mem_drop hp)).2.2; omega)
    rw [List.length_drop] at h1
    exact Nat.lt_of_lt_of_le (hbound k) h1
  have HDIG := Lib.hid hdig
  have HVAL := Lib.hid hval
  have HDL := Lib.hid hdl
  have HDS := Lib.hid hdsl
  have HDG := Lib.hid hdget
  have HQ := Lib.hid hQ
  have HBD := Lib.hid hbound2
  have HSEP := Lib.hid hsep
  have HSYS := Lib.hid hs
  have HR := Lib.hid hr
  have HFB := Lib.hid hfb
  have HFT := Lib.hid hft
  have HX := Lib.hid hx
  obtain ⟨lv, iv, h1, h2, -⟩ := hs
  have hbw := lt_of_heap h1
  obtain ⟨c0, c1, c2, -⟩ := five_sys h1
  have hl2 := h2.le_map
  obtain ⟨pa, pc, rfl, hpc, hpm, hps⟩ := reads_u32 h2
  have HS := Lib.hid hps
  obtain ⟨n, hn⟩ : ∃ n, n = ps.length := ⟨_, rfl⟩
  rw [← hn] at hpc hl2 c0 hlen hn1
  have HN := Lib.hid hn
  obtain ⟨qb, hqb⟩ : ∃ z, z = zN ((prodL ps : Nat) : Int) := ⟨_, rfl⟩
  obtain ⟨qt, hqt⟩ : ∃ z, z = zT ((prodL ps : Nat) : Int) := ⟨_, rfl⟩
  rw [← hqb] at c1
  rw [← hqt] at c2
  have HQB := Lib.hid hqb
  have HQT := Lib.hid hqt
  have HC0 := Lib.hid c0
  have HC1 := Lib.hid c1
  have HC2 := Lib.hid c2
  clear h1 h2 hps hn hsep hdig hval hdl hds hdsl hdget hQ hbound hbound2 hr hfb hft hx hqb hqt hsys c0 c1 c2 hrow
  go_enter Try.func54, Try.ntmps54
  go_upto_region 2 with (fail)
  generalize hwa : (w.alloc (.cells #[.bool false, .string ⟨#[]⟩] 38)).alloc (.cells #[.bool false, .string ⟨#[]⟩] 38) = wa
  have ha0 : wa.heap[w.heap.size]? = some (.cells #[.bool false, .string ⟨#[]⟩] 38) := by rw [← hwa, Below.heap_alloc _ _ _ (by simp)]; exact heap_alloc_new w _
  have ha1 : wa.heap[w.heap.size + 1]? = some (.cells #[.bool false, .string ⟨#[]⟩] 38) := by rw [← hwa]; exact alloc_last _ _ (by simp)
  have hab : Below w.heap.size w wa := by rw [← hwa]; exact ((Below.refl _ _).alloc (Nat.le_refl _) _).alloc (by simp) _
  have hasz : wa.heap.size = w.heap.size + 2 := by rw [← hwa]; simp
  clear hwa
  have HSA := Lib.hid (HSYS.out.below hab)
  have HRA := Lib.hid ((HR.out.below hab).mono hab.size)
  have HA0 := Lib.hid ha0
  have HA1 := Lib.hid ha1
  have HAB := Lib.hid hab
  have HASZ := Lib.hid hasz
  clear ha0 ha1 hab hasz
  go_wp2_with fail
  (with_reducible refine (HDIG.out _ HSA.out HRA.out).mono ?_)
  rintro e w1 ⟨v, rfl, ho, hb1⟩
  rw [HDS.out, ← HN.out, HASZ.out] at ho
  have HJ : Hid (JSt w w1 false ⟨#[]⟩ v n ds) := ⟨(hb1.block _ (lt_of_heap HA0.out)).trans HA0.out, (hb1.block _ (lt_of_heap HA1.out)).trans HA1.out, ho, HAB.out.trans (hb1.mono HAB.out.size)⟩
  obtain ⟨la, lc, rfl, hlc, hlm, -⟩ := ho.at_
  clear ho hb1 HSA HRA HA0 HA1 HAB HASZ
  go_wp2_with fail
  go_loopw [7] (fun iv wr => ∃ k : Nat, k ≤ n ∧ iv = .int .i64 ((k : Int) - 1) ∧ Hid (JSt w wr (zN ((mvL (ps.drop k) (ds.drop k) : Nat) : Int)) (zT ((mvL (ps.drop k) (ds.drop k) : Nat) : Int)) (.slice la n lc) n ds)) (fun iv _ => (intOf iv + 1).toNat)
  case atStart => exact ⟨n, Nat.le_refl _, rfl, by
    show JSt _ _ _ _ _ _ _
    rw [HN.out, List.drop_eq_nil_of_le (Nat.le_refl _)]
    have := HJ.out
    rw [← HN.out]
    exact this⟩
  case round =>
    obtain ⟨kk, hkk, rfl, hJ⟩ := hrel
    obtain ⟨wo, rfl⟩ : ∃ x, x = wr := ⟨_, rfl⟩
    cases kk with
    | zero =>
      have hmv : mvL (ps.drop 0) (ds.drop 0) = x := by rw [List.drop_zero, List.drop_zero]; exact HVAL.out
      rw [hmv] at hJ
      have hxl : x < 4294967296 ^ 25 := Nat.lt_of_lt_of_le HX.out.1 HQ.out
      have rX : InR (x : Int) := inR_of (k := 25) (by rw [Int.natAbs_natCast]; exact hxl) (by omega)
      have hq0 : 0 < prodL ps := Nat.lt_of_le_of_lt (Nat.zero_le _) HX.out.1
      have rQ : InR ((prodL ps : Nat) : Int) := by
        unfold InR; rw [Int.natAbs_natCast, lim_words]
        exact Nat.lt_of_le_of_lt HQ.out (Nat.pow_lt_pow_right (by omega) (by omega))
      have hbal := fun W => Balanced_z (x : Int) ((prodL ps : Nat) : Int) rX rQ (by omega) W
      unfold WideOk at hbal
      obtain ⟨xb, hxb⟩ : ∃ z, z = zN (x : Int) := ⟨_, rfl⟩
      obtain ⟨xt, hxt⟩ : ∃ z, z = zT (x : Int) := ⟨_, rfl⟩
      rw [← hxb, ← hxt] at hbal hJ
      rw [← HQB.out, ← HQT.out, ← HFB.out, ← HFT.out] at hbal
      have HBAL := Lib.hid hbal
      have hJs := hJ.out.size
      have c1 := (hJ.out.bel.cell (p := ⟨b, 1, none⟩) hbw).trans HC1.out
      have c2 := (hJ.out.bel.cell (p := ⟨b, 2, none⟩) hbw).trans HC2.out
      obtain ⟨x0, x1, -⟩ := wide_cells hJ.out.h1
      have HKEEP : Hid (∀ w', Below wo.heap.size wo w' → w'.cell? ⟨w.heap.size + 1, 0, none⟩ = some (.bool xb) ∧ w'.cell? ⟨w.heap.size + 1, 1, none⟩ = some (.string xt) ∧ w'.cell? ⟨b, 1, none⟩ = some (.bool qb) ∧ w'.cell? ⟨b, 2, none⟩ = some (.string qt)) := fun w' hb =>
        ⟨(hb.cell (p := ⟨w.heap.size + 1, 0, none⟩) (by show w.heap.size + 1 < _; omega)).trans x0, (hb.cell (p := ⟨w.heap.size + 1, 1, none⟩) (by show w.heap.size + 1 < _; omega)).trans x1, (hb.cell (p := ⟨b, 1, none⟩) (by show b < _; omega)).trans c1, (hb.cell (p := ⟨b, 2, none⟩) (by show b < _; omega)).trans c2⟩
      have t0 : ¬ (0 : Int) ≤ ((0 : Nat) : Int) - 1 := by omega
      clear hbal hxb hxt rX rQ hxl hq0 hmv
      go_wp2_with fail
      refine wp_region_late (fun w' => w'.cell? ⟨w.heap.size + 1, 0, none⟩ = some (.bool xb) ∧ w'.cell? ⟨w.heap.size + 1, 1, none⟩ = some (.string xt) ∧ w'.cell? ⟨b, 1, none⟩ = some (.bool qb) ∧ w'.cell? ⟨b, 2, none⟩ = some (.string qt)) (fun j => decide (j = 9)) (by kernel_rfl) ⟨x0, x1, c1, c2⟩ (fun hHeld => ?_)
      refine wpAnyD_take 0 (v := ?_) (by kernel_rfl) (by kernel_rfl) rfl (by kernel_rfl) (by kernel_rfl) (fun _ _ _ h => h) (Or.inl ⟨by rfl, ?_⟩) (by assumption) ?_
      rotate_left
      · (intro wq hSq; (try dsimp only at hSq); go_simp; try with_reducible rfl)
      try simp only [Act.put, List.setIfInBounds_toArray, List.set_cons_zero, List.set_cons_succ]
      refine wpAnyD_take 1 (v := ?_) (by kernel_rfl) (by kernel_rfl) rfl (by kernel_rfl) (by kernel_rfl) (fun _ _ _ h => h) (Or.inl ⟨by rfl, ?_⟩) (by assumption) ?_
      rotate_left
      · (intro wq hSq; (try dsimp only at hSq); go_simp; try with_reducible rfl)
      try simp only [Act.put, List.setIfInBounds_toArray, List.set_cons_zero, List.set_cons_succ]
      refine wpAnyD_take 2 (v := ?_) (by kernel_rfl) (by kernel_rfl) rfl (by kernel_rfl) (by kernel_rfl) (fun _ _ _ h => h) (Or.inl ⟨by rfl, ?_⟩) (by assumption) ?_
      rotate_left
      · (intro wq hSq; (try dsimp only at hSq); go_simp; try with_reducible rfl)
      try simp only [Act.put, List.setIfInBounds_toArray, List.set_cons_zero, List.set_cons_succ]
      refine wpAnyD_take 3 (v := ?_) (by kernel_rfl) (by kernel_rfl) rfl (by kernel_rfl) (by kernel_rfl) (fun _ _ _ h => h) (Or.inl ⟨by rfl, ?_⟩) (by assumption) ?_
      rotate_left
      · (intro wq hSq; (try dsimp only at hSq); go_simp; try with_reducible rfl)
      try simp only [Act.put, List.setIfInBounds_toArray, List.set_cons_zero, List.set_cons_succ]
      refine wpAnyD_take 4 (v := ?_) (by kernel_rfl) (by kernel_rfl) rfl (by kernel_rfl) (by kernel_rfl) (fun _ _ _ h => h) (Or.inl ⟨by rfl, ?_⟩) (by assumption) ?_
      rotate_left
      · (intro wq hSq; (try dsimp only at hSq); go_simp; try with_reducible rfl)
      try simp only [Act.put, List.setIfInBounds_toArray, List.set_cons_zero, List.set_cons_succ]
      refine wpAnyD_keep 5 (by kernel_rfl) rfl (fun K hK => ?_)
      go_simp
      go_at_call 82
      (with_reducible refine (HBAL.out _).mono ?_)
      rintro e w5 ⟨rfl, hb5⟩
      have hb5' : Below wo.heap.size wo w5 := ((Below.refl wo.heap.size wo).drew).trans hb5
      refine hK.out _ _ (HKEEP.out w5 hb5') (fun hHeld3 => ?_)
      have HJ5 := Lib.hid (hJ.out.below hb5')
      clear hK K hHeld hb5 hb5' x0 x1 c1 c2
      try simp only [Act.put, List.setIfInBounds_toArray, List.set_cons_zero, List.set_cons_succ]
      refine wpAnyD_takeW 6 (v := ?_) (by kernel_rfl) rfl (by kernel_rfl) (by kernel_rfl) (fun _ _ _ h => h) (Or.inl ⟨by rfl, ?_⟩) ?_
      rotate_left
      · (intro wq hSq; (try dsimp only at hSq); go_simp; try with_reducible rfl)
      try simp only [Act.put, List.setIfInBounds_toArray, List.set_cons_zero, List.set_cons_succ]
      refine wpAnyD_takeW 7 (v := ?_) (by kernel_rfl) rfl (by kernel_rfl) (by kernel_rfl) (fun _ _ _ h => h) (Or.inl ⟨by rfl, ?_⟩) ?_
      rotate_left
      · (intro wq hSq; (try dsimp only at hSq); go_simp; try with_reducible rfl)
      try simp only [Act.put, List.setIfInBounds_toArray, List.set_cons_zero, List.set_cons_succ]
      refine wpAnyD_takeW 8 (v := ?_) (by kernel_rfl) rfl (by kernel_rfl) (by kernel_rfl) (fun _ _ _ h => h) (Or.inl ⟨by rfl, ?_⟩) ?_
      rotate_left
      · (intro wq hSq; (try dsimp only at hSq); go_simp; try with_reducible rfl)
      try simp only [Act.put, List.setIfInBounds_toArray, List.set_cons_zero, List.set_cons_succ]
      refine wpAnyD_step 9 (by kernel_rfl) rfl rfl (fun K hK => ?_)
      obtain ⟨x0, x1, xf⟩ := wide_cells HJ5.out.h1
      go_simp
      refine hK.out _ _ ?_
      clear hK K hHeld3 x0 x1 xf
      refine wpAnyD_end (by kernel_rfl) ?_
      have hJ7 := HJ5.out.set fb ft
      generalize (w5.setCell ⟨w.heap.size + 1, 0, none⟩ (.bool fb)).setCell ⟨w.heap.size + 1, 1, none⟩ (.string ft) = w7 at hJ7 ⊢
      obtain ⟨x0, x1, -⟩ := wide_cells hJ7.h1
      obtain ⟨r0, r1, rf⟩ := wide_cells hJ7.h0
      have m2 := wide_set hJ7.h0 fb ft
      have hb9 := below_set2 (p := w.heap.size) hJ7.bel (Nat.le_refl _) fb ft
      clear hJ7
      go_wp2
      obtain ⟨d20, d21, -⟩ := wide_cells m2
      clear m2
      generalize (w7.setCell ⟨w.heap.size, 0, none⟩ (.bool fb)).setCell ⟨w.heap.size, 1, none⟩ (.string ft) = W9 at d20 d21 hb9 ⊢
      rw [HP.out]
      exact bodyPost_ret (v := .agg #[.bool fb, .string ft]) (by simp [results, Try.results54, go_sem, d20, d21]) rfl ⟨rfl, hb9⟩
    | succ j =>
      rw [show ((j + 1 : Nat) : Int) - 1 = (j : Int) by omega]
      have hjp : j < ps.length := by rw [← HN.out]; omega
      obtain ⟨p, hp⟩ : ∃ p, ps[j]? = some p := ⟨ps[j], List.getElem?_eq_getElem hjp⟩
      have hdj := HDG.out j hjp
      obtain ⟨d, hd⟩ : ∃ d, d = dgt ps rs j := ⟨_, rfl⟩
      rw [← hd] at hdj
      obtain ⟨b2, o2, rfl, hb2l, d2⟩ := HS.out j p hp
      obtain ⟨lb, rfl, hlb1, hlb2, hlc2⟩ := (show ∃ lb, la = some ⟨lb, 0, none⟩ ∧ w.heap.size + 2 ≤ lb ∧ lb < wo.heap.size ∧ wo.cell? ⟨lb, j, none⟩ = some (.int .u32 (d : Int)) from by
        obtain ⟨a', c', hv, -, -, hc⟩ := hJ.out.ol.at_
        injection hv with hv1 hv2 hv3
        obtain ⟨g, q1, q2, q3, q4⟩ := hc j (.int .u32 (d : Int)) (by rw [List.getElem?_map, hdj]; rfl)
        exact ⟨g, hv1.trans q1, q2, q3, q4⟩)
      obtain ⟨p1, p2, p3, p4⟩ := HSEP.out j p hp
      have hpd : d < p := by rw [hd]; exact HDL.out j p hp
      have hdrop := mvL_drop hp hdj
      have hbj := HBD.out j (by omega)
      obtain ⟨X, hX⟩ : ∃ X, X = mvL (ps.drop (j + 1)) (ds.drop (j + 1)) := ⟨_, rfl⟩
      obtain ⟨Z, hZ⟩ : ∃ Z, Z = mvL (ps.drop j) (ds.drop j) := ⟨_, rfl⟩
      rw [← hX] at hdrop hJ
      rw [← hZ] at hdrop hbj
      obtain ⟨Y, hY⟩ : ∃ Y, Y = X * p := ⟨_, rfl⟩
      rw [Nat.mul_comm p, ← hY] at hdrop
      have hXY : X ≤ Y := by rw [hY]; exact Nat.le_mul_of_pos_right X p1.pos
      have hk25 : ps.length - j ≤ 64 := by rw [← HN.out]; omega
      have rX : InR (X : Int) := inR_of (k := ps.length - j) (by rw [Int.natAbs_natCast]; omega) hk25
      have rY : InR (Y : Int) := inR_of (k := ps.length - j) (by rw [Int.natAbs_natCast]; omega) hk25
      have rZ : InR (Z : Int) := inR_of (k := ps.length - j) (by rw [Int.natAbs_natCast]; omega) hk25
      have rp : InR (p : Int) := inR_small (by omega)
      have rd : InR (d : Int) := inR_small (by omega)
      have eY : (X : Int) * (p : Int) = (Y : Int) := by rw [hY]; simp
      have eZ : (Y : Int) + (d : Int) = (Z : Int) := by omega
      have hmul := fun W => Mul_z (X : Int) (p : Int) rX rp (by rw [eY]; exact rY) W
      have hadd := fun W => Add_z (Y : Int) (d : Int) rY rd (by rw [eZ]; exact rZ) W
      have hofp := fun W => Of_z (p : Int) (by omega) (by omega) W
      have hofd := fun W => Of_z (d : Int) (by omega) (by omega) W
      unfold WideOk at hmul hadd
      rw [eY] at hmul
      rw [eZ] at hadd
      have HZ : Hid (Z = mvL (ps.drop j) (ds.drop j)) := hZ
      obtain ⟨xb, hxb⟩ : ∃ z, z = zN (X : Int) := ⟨_, rfl⟩
      obtain ⟨xt, hxt⟩ : ∃ z, z = zT (X : Int) := ⟨_, rfl⟩
      obtain ⟨yb, hyb⟩ : ∃ z, z = zN (Y : Int) := ⟨_, rfl⟩
      obtain ⟨yt, hyt⟩ : ∃ z, z = zT (Y : Int) := ⟨_, rfl⟩
      obtain ⟨zb, hzb⟩ : ∃ z, z = zN (Z : Int) := ⟨_, rfl⟩
      obtain ⟨zt, hzt⟩ : ∃ z, z = zT (Z : Int) := ⟨_, rfl⟩
      obtain ⟨pb, hpb⟩ : ∃ z, z = zN (p : Int) := ⟨_, rfl⟩
      obtain ⟨pt, hpt⟩ : ∃ z, z = zT (p : Int) := ⟨_, rfl⟩
      obtain ⟨db, hdb⟩ : ∃ z, z = zN (d : Int) := ⟨_, rfl⟩
      obtain ⟨dt, hdt⟩ : ∃ z, z = zT (d : Int) := ⟨_, rfl⟩
      rw [← hxb, ← hxt] at hmul hJ
      rw [← hpb, ← hpt] at hmul hofp
      rw [← hyb, ← hyt] at hmul hadd
      rw [← hdb, ← hdt] at hadd hofd
      rw [← hzb, ← hzt] at hadd
      have HMUL := Lib.hid hmul
      have HADD := Lib.hid hadd
      have HOFP := Lib.hid hofp
      have HOFD := Lib.hid hofd
      have HZB := Lib.hid hzb
      have HZT := Lib.hid hzt
      have hJs := hJ.out.size
      have c0 := (hJ.out.bel.cell (p := ⟨b, 0, none⟩) hbw).trans HC0.out
      have e1 := (hJ.out.bel.cell (p := ⟨b2, o2 + j, none⟩) hb2l).trans d2
      obtain ⟨x0, x1, -⟩ := wide_cells hJ.out.h1
      have HKEEP : Hid (∀ w', Below wo.heap.size wo w' → w'.cell? ⟨w.heap.size + 1, 0, none⟩ = some (.bool xb) ∧ w'.cell? ⟨w.heap.size + 1, 1, none⟩ = some (.string xt) ∧ w'.cell? ⟨b, 0, none⟩ = some (.slice (some ⟨b2, o2, none⟩) n pc) ∧ w'.cell? ⟨b2, o2 + j, none⟩ = some (.int .u32 (p : Int))) := fun w' hb =>
        ⟨(hb.cell (p := ⟨w.heap.size + 1, 0, none⟩) (by show w.heap.size + 1 < _; omega)).trans x0, (hb.cell (p := ⟨w.heap.size + 1, 1, none⟩) (by show w.heap.size + 1 < _; omega)).trans x1, (hb.cell (p := ⟨b, 0, none⟩) (by show b < _; omega)).trans c0, (hb.cell (p := ⟨b2, o2 + j, none⟩) (by show b2 < _; omega)).trans e1⟩
      have HLC := Lib.hid hlc2
      have t1 : (0 : Int) ≤ (j : Int) := by omega
      have t2 : (j : Int) < (n : Int) := by omega
      have w64p : IntKind.i64.wrap (p : Int) = (p : Int) := by rw [IntKind.wrap_i64]; omega
      have w64d : IntKind.i64.wrap (d : Int) = (d : Int) := by rw [IntKind.wrap_i64]; omega
      clear hmul hadd hofp hofd hzb hzt hxb hxt hyb hyt hpb hpt hdb hdt hX hZ hY hXY hbj hdrop hp hd hdj d2 p1 p2 p4 rX rY rZ rp rd eY eZ hk25 hjp hlc2 hpd
      go_wp2_with fail
      refine wp_region_late (fun w' => w'.cell? ⟨w.heap.size + 1, 0, none⟩ = some (.bool xb) ∧ w'.cell? ⟨w.heap.size + 1, 1, none⟩ = some (.string xt) ∧ w'.cell? ⟨b, 0, none⟩ = some (.slice (some ⟨b2, o2, none⟩) n pc) ∧ w'.cell? ⟨b2, o2 + j, none⟩ = some (.int .u32 (p : Int))) (fun j => decide (j = 14)) (by kernel_rfl) ⟨x0, x1, c0, e1⟩ (fun hHeld => ?_)
      refine wpAnyD_take 0 (v := ?_) (by kernel_rfl) (by kernel_rfl) rfl (by kernel_rfl) (by kernel_rfl) (fun _ _ _ h => h) (Or.inl ⟨by rfl, ?_⟩) (by assumption) ?_
      rotate_left
      · (intro wq hSq; (try dsimp only at hSq); go_simp; try with_reducible rfl)
      try simp only [Act.put, List.setIfInBounds_toArray, List.set_cons_zero, List.set_cons_succ]
      refine wpAnyD_take 1 (v := ?_) (by kernel_rfl) (by kernel_rfl) rfl (by kernel_rfl) (by kernel_rfl) (fun _ _ _ h => h) (Or.inl ⟨by rfl, ?_⟩) (by assumption) ?_
      rotate_left
      · (intro wq hSq; (try dsimp only at hSq); go_simp; try with_reducible rfl)
      try simp only [Act.put, List.setIfInBounds_toArray, List.set_cons_zero, List.set_cons_succ]
      refine wpAnyD_take 2 (v := ?_) (by kernel_rfl) (by kernel_rfl) rfl (by kernel_rfl) (by kernel_rfl) (fun _ _ _ h => h) (Or.inl ⟨by rfl, ?_⟩) (by assumption) ?_
      rotate_left
      · (intro wq hSq; (try dsimp only at hSq); go_simp; try with_reducible rfl)
      try simp only [Act.put, List.setIfInBounds_toArray, List.set_cons_zero, List.set_cons_succ]
      refine wpAnyD_take 3 (v := ?_) (by kernel_rfl) (by kernel_rfl) rfl (by kernel_rfl) (by kernel_rfl) (fun _ _ _ h => h) (Or.inl ⟨by rfl, ?_⟩) (by assumption) ?_
      rotate_left
      · (intro wq hSq; (try dsimp only at hSq); go_simp; try with_reducible rfl)
      try simp only [Act.put, List.setIfInBounds_toArray, List.set_cons_zero, List.set_cons_succ]
      refine wpAnyD_take 4 (v := ?_) (by kernel_rfl) (by kernel_rfl) rfl (by kernel_rfl) (by kernel_rfl) (fun _ _ _ h => h) (Or.inl ⟨by rfl, ?_⟩) (by assumption) ?_
      rotate_left
      · (intro wq hSq; (try dsimp only at hSq); go_simp; try with_reducible rfl)
      try simp only [Act.put, List.setIfInBounds_toArray, List.set_cons_zero, List.set_cons_succ]
      refine wpAnyD_take 5 (v := ?_) (by kernel_rfl) (by kernel_rfl) rfl (by kernel_rfl) (by kernel_rfl) (fun _ _ _ h => h) (Or.inl ⟨by rfl, ?_⟩) (by assumption) ?_
      rotate_left
      · (intro wq hSq; (try dsimp only at hSq); go_simp; try with_reducible rfl)
      try simp only [Act.put, List.setIfInBounds_toArray, List.set_cons_zero, List.set_cons_succ]
      refine wpAnyD_take 6 (v := ?_) (by kernel_rfl) (by kernel_rfl) rfl (by kernel_rfl) (by kernel_rfl) (fun _ _ _ h => h) (Or.inl ⟨by rfl, ?_⟩) (by assumption) ?_
      rotate_left
      · (intro wq hSq; (try dsimp only at hSq); go_simp; try with_reducible rfl)
      try simp only [Act.put, List.setIfInBounds_toArray, List.set_cons_zero, List.set_cons_succ]
      refine wpAnyD_take 7 (v := ?_) (by kernel_rfl) (by kernel_rfl) rfl (by kernel_rfl) (by kernel_rfl) (fun _ _ _ h => h) (Or.inl ⟨by rfl, ?_⟩) (by assumption) ?_
      rotate_left
      · (intro wq hSq; (try dsimp only at hSq); go_simp; try with_reducible rfl)
      try simp only [Act.put, List.setIfInBounds_toArray, List.set_cons_zero, List.set_cons_succ]
      refine wpAnyD_take 8 (v := ?_) (by kernel_rfl) (by kernel_rfl) rfl (by kernel_rfl) (by kernel_rfl) (fun _ _ _ h => h) (Or.inl ⟨by rfl, ?_⟩) (by assumption) ?_
      rotate_left
      · (intro wq hSq; (try dsimp only at hSq); go_simp; try with_reducible rfl)
      try simp only [Act.put, List.setIfInBounds_toArray, List.set_cons_zero, List.set_cons_succ]
      refine wpAnyD_keep 9 (by kernel_rfl) rfl (fun K hK => ?_)
      go_simp
      go_at_call 37
      (with_reducible refine (HOFP.out _).mono ?_)
      rintro e w5 ⟨rfl, hb5⟩
      have hb5' : Below wo.heap.size wo w5 := ((Below.refl wo.heap.size wo).drew).trans hb5
      refine hK.out _ _ (HKEEP.out w5 hb5') (fun hHeld3 => ?_)
      have HB5 := Lib.hid hb5'
      clear hK K hHeld hb5 hb5' x0 x1 c0 e1
      try simp only [Act.put, List.setIfInBounds_toArray, List.set_cons_zero, List.set_cons_succ]
      refine wpAnyD_keep 10 (by kernel_rfl) rfl (fun K hK => ?_)
      go_simp
      go_at_call 51
      (with_reducible refine (HMUL.out _).mono ?_)
      rintro e w6 ⟨rfl, hb6⟩
      have hb6' : Below wo.heap.size wo w6 := below_via HB5.out hb6
      refine hK.out _ _ (HKEEP.out w6 hb6') (fun hHeld4 => ?_)
      have HJ6 := Lib.hid (hJ.out.below hb6')
      have HB6 := Lib.hid hb6'
      clear hK K hHeld3 hb6 hb6' HB5
      try simp only [Act.put, List.setIfInBounds_toArray, List.set_cons_zero, List.set_cons_succ]
      refine wpAnyD_takeW 11 (v := ?_) (by kernel_rfl) rfl (by kernel_rfl) (by kernel_rfl) (fun _ _ _ h => h) (Or.inl ⟨by rfl, ?_⟩) ?_
      rotate_left
      · (intro wq hSq; (try dsimp only at hSq); go_simp; try with_reducible rfl)
      try simp only [Act.put, List.setIfInBounds_toArray, List.set_cons_zero, List.set_cons_succ]
      refine wpAnyD_takeW 12 (v := ?_) (by kernel_rfl) rfl (by kernel_rfl) (by kernel_rfl) (fun _ _ _ h => h) (Or.inl ⟨by rfl, ?_⟩) ?_
      rotate_left
      · (intro wq hSq; (try dsimp only at hSq); go_simp; try with_reducible rfl)
      try simp only [Act.put, List.setIfInBounds_toArray, List.set_cons_zero, List.set_cons_succ]
      refine wpAnyD_takeW 13 (v := ?_) (by kernel_rfl) rfl (by kernel_rfl) (by kernel_rfl) (fun _ _ _ h => h) (Or.inl ⟨by rfl, ?_⟩) ?_
      rotate_left
      · (intro wq hSq; (try dsimp only at hSq); go_simp; try with_reducible rfl)
      try simp only [Act.put, List.setIfInBounds_toArray, List.set_cons_zero, List.set_cons_succ]
      refine wpAnyD_step 14 (by kernel_rfl) rfl rfl (fun K hK => ?_)
      obtain ⟨x0, x1, xf⟩ := wide_cells HJ6.out.h1
      go_simp
      refine hK.out _ _ ?_
      clear hK K hHeld4 x0 x1 xf
      refine wpAnyD_end (by kernel_rfl) ?_
      have hJ7 := HJ6.out.set yb yt
      have hl7 : ((w6.setCell ⟨w.heap.size + 1, 0, none⟩ (.bool yb)).setCell ⟨w.heap.size + 1, 1, none⟩ (.string yt)).cell? ⟨lb, j, none⟩ = some (.int .u32 (d : Int)) :=
        (World.cell?_of_block (a := ⟨lb, j, none⟩) (wide_other (p := lb) (q := w.heap.size + 1) (by omega) yb yt)).trans ((HB6.out.cell (p := ⟨lb, j, none⟩) hlb2).trans HLC.out)
      have hs7 : lb < ((w6.setCell ⟨w.heap.size + 1, 0, none⟩ (.bool yb)).setCell ⟨w.heap.size + 1, 1, none⟩ (.string yt)).heap.size := by simp; exact Nat.lt_of_lt_of_le hlb2 HB6.out.size
      generalize (w6.setCell ⟨w.heap.size + 1, 0, none⟩ (.bool yb)).setCell ⟨w.heap.size + 1, 1, none⟩ (.string yt) = w7 at hJ7 hl7 hs7 ⊢
      have hJs7 := hJ7.size
      obtain ⟨x0, x1, -⟩ := wide_cells hJ7.h1
      have HJ7 := Lib.hid hJ7
      have HKEEP7 : Hid (∀ w', Below w7.heap.size w7 w' → w'.cell? ⟨w.heap.size + 1, 0, none⟩ = some (.bool yb) ∧ w'.cell? ⟨w.heap.size + 1, 1, none⟩ = some (.string yt) ∧ w'.cell? ⟨lb, j, none⟩ = some (.int .u32 (d : Int))) := fun w' hb =>
        ⟨(hb.cell (p := ⟨w.heap.size + 1, 0, none⟩) (by show w.heap.size + 1 < _; omega)).trans x0, (hb.cell (p := ⟨w.heap.size + 1, 1, none⟩) (by show w.heap.size + 1 < _; omega)).trans x1, (hb.cell (p := ⟨lb, j, none⟩) (by show lb < _; omega)).trans hl7⟩
      clear hJ7 hJ HJ6 HB6 HKEEP hlb2 HLC
      go_wp2_with fail
      refine wp_region_late (fun w' => w'.cell? ⟨w.heap.size + 1, 0, none⟩ = some (.bool yb) ∧ w'.cell? ⟨w.heap.size + 1, 1, none⟩ = some (.string yt) ∧ w'.cell? ⟨lb, j, none⟩ = some (.int .u32 (d : Int))) (fun j => decide (j = 11)) (by kernel_rfl) ⟨x0, x1, hl7⟩ (fun hHeld => ?_)
      refine wpAnyD_take 0 (v := ?_) (by kernel_rfl) (by kernel_rfl) rfl (by kernel_rfl) (by kernel_rfl) (fun _ _ _ h => h) (Or.inl ⟨by rfl, ?_⟩) (by assumption) ?_
      rotate_left
      · (intro wq hSq; (try dsimp only at hSq); go_simp; try with_reducible rfl)
      try simp only [Act.put, List.setIfInBounds_toArray, List.set_cons_zero, List.set_cons_succ]
      refine wpAnyD_take 1 (v := ?_) (by kernel_rfl) (by kernel_rfl) rfl (by kernel_rfl) (by kernel_rfl) (fun _ _ _ h => h) (Or.inl ⟨by rfl, ?_⟩) (by assumption) ?_
      rotate_left
      · (intro wq hSq; (try dsimp only at hSq); go_simp; try with_reducible rfl)
      try simp only [Act.put, List.setIfInBounds_toArray, List.set_cons_zero, List.set_cons_succ]
      refine wpAnyD_take 2 (v := ?_) (by kernel_rfl) (by kernel_rfl) rfl (by kernel_rfl) (by kernel_rfl) (fun _ _ _ h => h) (Or.inl ⟨by rfl, ?_⟩) (by assumption) ?_
      rotate_left
      · (intro wq hSq; (try dsimp only at hSq); go_simp; try with_reducible rfl)
      try simp only [Act.put, List.setIfInBounds_toArray, List.set_cons_zero, List.set_cons_succ]
      refine wpAnyD_take 3 (v := ?_) (by kernel_rfl) (by kernel_rfl) rfl (by kernel_rfl) (by kernel_rfl) (fun _ _ _ h => h) (Or.inl ⟨by rfl, ?_⟩) (by assumption) ?_
      rotate_left
      · (intro wq hSq; (try dsimp only at hSq); go_simp; try with_reducible rfl)
      try simp only [Act.put, List.setIfInBounds_toArray, List.set_cons_zero, List.set_cons_succ]
      refine wpAnyD_take 4 (v := ?_) (by kernel_rfl) (by kernel_rfl) rfl (by kernel_rfl) (by kernel_rfl) (fun _ _ _ h => h) (Or.inl ⟨by rfl, ?_⟩) (by assumption) ?_
      rotate_left
      · (intro wq hSq; (try dsimp only at hSq); go_simp; try with_reducible rfl)
      try simp only [Act.put, List.setIfInBounds_toArray, List.set_cons_zero, List.set_cons_succ]
      refine wpAnyD_take 5 (v := ?_) (by kernel_rfl) (by kernel_rfl) rfl (by kernel_rfl) (by kernel_rfl) (fun _ _ _ h => h) (Or.inl ⟨by rfl, ?_⟩) (by assumption) ?_
      rotate_left
      · (intro wq hSq; (try dsimp only at hSq); go_simp; try with_reducible rfl)
      try simp only [Act.put, List.setIfInBounds_toArray, List.set_cons_zero, List.set_cons_succ]
      refine wpAnyD_keep 6 (by kernel_rfl) rfl (fun K hK => ?_)
      go_simp
      go_at_call 37
      (with_reducible refine (HOFD.out _).mono ?_)
      rintro e w8 ⟨rfl, hb8⟩
      have hb8' : Below w7.heap.size w7 w8 := ((Below.refl w7.heap.size w7).drew).trans hb8
      refine hK.out _ _ (HKEEP7.out w8 hb8') (fun hHeld3 => ?_)
      have HB8 := Lib.hid hb8'
      clear hK K hHeld hb8 hb8' x0 x1 hl7
      try simp only [Act.put, List.setIfInBounds_toArray, List.set_cons_zero, List.set_cons_succ]
      refine wpAnyD_keep 7 (by kernel_rfl) rfl (fun K hK => ?_)
      go_simp
      go_at_call 81
      (with_reducible refine (HADD.out _).mono ?_)
      rintro e w9 ⟨rfl, hb9⟩
      have hb9' : Below w7.heap.size w7 w9 := below_via HB8.out hb9
      refine hK.out _ _ (HKEEP7.out w9 hb9') (fun hHeld4 => ?_)
      have HJ9 := Lib.hid (HJ7.out.below hb9')
      clear hK K hHeld3 hb9 hb9' HB8
      try simp only [Act.put, List.setIfInBounds_toArray, List.set_cons_zero, List.set_cons_succ]
      refine wpAnyD_takeW 8 (v := ?_) (by kernel_rfl) rfl (by kernel_rfl) (by kernel_rfl) (fun _ _ _ h => h) (Or.inl ⟨by rfl, ?_⟩) ?_
      rotate_left
      · (intro wq hSq; (try dsimp only at hSq); go_simp; try with_reducible rfl)
      try simp only [Act.put, List.setIfInBounds_toArray, List.set_cons_zero, List.set_cons_succ]
      refine wpAnyD_takeW 9 (v := ?_) (by kernel_rfl) rfl (by kernel_rfl) (by kernel_rfl) (fun _ _ _ h => h) (Or.inl ⟨by rfl, ?_⟩) ?_
      rotate_left
      · (intro wq hSq; (try dsimp only at hSq); go_simp; try with_reducible rfl)
      try simp only [Act.put, List.setIfInBounds_toArray, List.set_cons_zero, List.set_cons_succ]
      refine wpAnyD_takeW 10 (v := ?_) (by kernel_rfl) rfl (by kernel_rfl) (by kernel_rfl) (fun _ _ _ h => h) (Or.inl ⟨by rfl, ?_⟩) ?_
      rotate_left
      · (intro wq hSq; (try dsimp only at hSq); go_simp; try with_reducible rfl)
      try simp only [Act.put, List.setIfInBounds_toArray, List.set_cons_zero, List.set_cons_succ]
      refine wpAnyD_step 11 (by kernel_rfl) rfl rfl (fun K hK => ?_)
      obtain ⟨x0, x1, xf⟩ := wide_cells HJ9.out.h1
      go_simp
      refine hK.out _ _ ?_
      clear hK K hHeld4 x0 x1 xf
      refine wpAnyD_end (by kernel_rfl) ?_
      go_wp2_with fail
      go_roundw
      case rel => exact ⟨j, by omega, rfl, by
        show JSt _ _ _ _ _ _ _
        rw [← HZ.out, ← HZB.out, ← HZT.out]
        exact HJ9.out.set zb zt⟩
      case measure => simp [intOf]
end Go.Proofs.Ytnjblppapmflhaa

/- Walks: division by the last prime. -/
namespace Go.Proofs.Ytnjblppapmflhaa
set_option linter.all false
open Go.RowKit Go.Shelf Go.WideNum PN
/-- A residue of the quotient by q. -/
def overD (p q r t : Nat) (d : Int) : Nat := (r + p - (d % (p : Int)).toNat * (t % p) % p) % p * invN (q % p) p % p
def overL (ps rs : List Nat) (d : Int) (t : Nat) : List Nat := (List.range (ps.length - 1)).map fun i => overD (ps.getD i 0) (ps.getD (ps.length - 1) 0) (rs.getD i 0) t d
theorem overL_len (ps rs : List Nat) (d : Int) (t : Nat) : (overL ps rs d t).length = ps.length - 1 := by simp [overL]
set_option maxHeartbeats 8000000 in
theorem over_any (b : Nat) (ps rs : List Nat) (rv : Value) (d : Int) (t : Nat) (w : World) (hs : SysAt w b ps) (hsys : SysP ps) (hr : w.reads w.heap.size rv (rs.map u32V)) (hrow : RowP ps rs) (hd : -9223372036854775808 ≤ d ∧ d < 9223372036854775808) (ht : t < 4294967296) :
    Calls Try.prog 41 #[.pointer (some ⟨b, 0, none⟩), rv, .int .i64 d, .int .u32 (t : Int)] w (RowRet w (overL ps rs d t)) := by
  obtain ⟨HPOST, hpost⟩ : ∃ R, R = RowRet w (overL ps rs d t) := ⟨_, rfl⟩
  rw [← hpost]
  have HP := Lib.hid hpost
  clear hpost
  have hsep := hsys.sep
  have hlen := hsys.2.1
  have hn1 := hsys.1
  have HSEP := Lib.hid hsep
  have HROW := Lib.hid hrow
  obtain ⟨lv, iv, h1, h2, -⟩ := hs
  have hbw := lt_of_heap h1
  obtain ⟨c0, -⟩ := five_sys h1
  have hl1 := hr.le_map
  obtain ⟨pa, pc, rfl, hpc, hpm, hps⟩ := reads_u32 h2
  obtain ⟨ra, rc, rfl, hrc, hrm, hrs⟩ := reads_u32 hr
  have HS := Lib.hid hps
  have HR := Lib.hid hrs
  obtain ⟨m, hm⟩ : ∃ m, m = ps.length - 1 := ⟨_, rfl⟩
  have hn : ps.length = m + 1 := by omega
  have hlr : rs.length = m + 1 := by rw [hrow.1, hn]
  obtain ⟨q, hq⟩ : ∃ q, ps[m]? = some q := ⟨ps[m]'(by omega), List.getElem?_eq_getElem (by omega)⟩
  obtain ⟨bp, op, rfl, hbpl, dq⟩ := hps m q hq
  have hqp := hsep m q hq
  have HN := Lib.hid hn
  have HLR := Lib.hid hlr
  have HQ := Lib.hid hq
  rw [hn] at hpc c0
  rw [hlr] at hrc hl1 ⊢
  have hqb : q < 4294967296 := by have := hqp.2.2.1; omega
  have hmk := make_words m (by omega)
  have HC0 := Lib.hid c0
  have HDQ := Lib.hid dq
  have hm25 : m ≤ 24 := by omega
  have s1 : ((m + 1 : Nat) : Int) - 1 = (m : Int) := by omega
  have s2 : (m : Int) ≤ ((m + 1 : Nat) : Int) := by omega
  have s3 : (m : Int) < ((m + 1 : Nat) : Int) := by omega
  have s4 : m ≤ pc := by omega
  clear h1 h2 hr hps hrs hsep hrow hsys hlen hn1 hq hqp hlr hn hm dq
  go_enter Try.func41, Try.ntmps41
  go_upto_region 3 with (fail)
  generalize hwa : w.alloc (.cells (zrow m) 23) = wa
  have ha0 : wa.heap[w.heap.size]? = some (.cells (rowF (fun i => if i < 0 then overD (ps.getD i 0) q (rs.getD i 0) t d else 0) m) 23) := by rw [← hwa, rowF_congr (f' := fun _ => 0) (fun j _ => if_neg (by omega)), rowF_zero]; exact heap_alloc_new w _
  have hab : Below w.heap.size w wa := by rw [← hwa]; exact (Below.refl _ _).alloc (Nat.le_refl _) _
  clear hwa
  have c0 := (hab.cell (p := ⟨b, 0, none⟩) hbw).trans HC0.out
  have HA0 := Lib.hid ha0
  have HAB := Lib.hid hab
  clear ha0 hab
  go_wp2_with fail
  clear c0
  go_loopw [33] (fun iv wr => ∃ k : Nat, k ≤ m ∧ iv = .int .i64 (k : Int) ∧ Hid (wr.heap[w.heap.size]? = some (.cells (rowF (fun i => if i < k then overD (ps.getD i 0) q (rs.getD i 0) t d else 0) m) 23)) ∧ Hid (Below w.heap.size w wr)) (fun iv _ => m - (intOf iv).toNat)
  case atStart => exact ⟨0, Nat.zero_le _, rfl, HA0.out, HAB.out⟩
  case round =>
    obtain ⟨k, hk, rfl, hg, hb⟩ := hrel
    by_cases hlt : k < m
    · have hkp : k < ps.length := by rw [HN.out]; omega
      have hkr : k < rs.length := by rw [HLR.out]; omega
      obtain ⟨p, hp⟩ : ∃ p, ps[k]? = some p := ⟨ps[k], List.getElem?_eq_getElem hkp⟩
      obtain ⟨r, hr⟩ : ∃ r, rs[k]? = some r := ⟨rs[k], List.getElem?_eq_getElem hkr⟩
      obtain ⟨b2, o2, hpa2, hb2l, d2⟩ := HS.out k p hp
      injection hpa2 with hpa2
      injection hpa2 with hpa2 hpa3 _
      subst hpa2 hpa3
      obtain ⟨b1, o1, rfl, hb1l, d1⟩ := HR.out k r hr
      obtain ⟨p1, p2, p3, p4⟩ := HSEP.out k p hp
      have hp2 : 2 ≤ p := p1.1
      have hrp : r < p := HROW.out.2 k p r hp hr
      have hgq : Nat.gcd p (q % p) = 1 := by
        obtain ⟨q1, _, _, q4⟩ := HSEP.out m q HQ.out
        have hne : p ≠ q := fun e => q4 (by rw [← e]; exact List.mem_of_getElem? (by rw [List.getElem?_take, if_pos hlt]; exact hp))
        rw [Nat.gcd_comm, ← Nat.gcd_rec]
        exact pr_cop p1 q1 hne
      obtain ⟨a, ha⟩ : ∃ a : Nat, a = (d % (p : Int)).toNat := ⟨_, rfl⟩
      have hr0 := Int.emod_nonneg d (show (p : Int) ≠ 0 by omega)
      have hr1 := Int.emod_lt_of_pos d (show (0 : Int) < p by omega)
      have hxa : d % (p : Int) = (a : Int) := by omega
      have hap : a < p := by omega
      obtain ⟨tp, htp⟩ : ∃ z, z = t % p := ⟨_, rfl⟩
      have htpl : tp < p := by rw [htp]; exact Nat.mod_lt _ (by omega)
      obtain ⟨f, hf⟩ : ∃ f, f = a * tp % p := ⟨_, rfl⟩
      have hfl : f < p := by rw [hf]; exact Nat.mod_lt _ (by omega)
      obtain ⟨rest, hrest⟩ : ∃ z, z = (r + p - f) % p := ⟨_, rfl⟩
      have hrestl : rest < p := by rw [hrest]; exact Nat.mod_lt _ (by omega)
      obtain ⟨qp, hqp⟩ : ∃ z, z = q % p := ⟨_, rfl⟩
      have hqpl : qp < p := by rw [hqp]; exact Nat.mod_lt _ (by omega)
      obtain ⟨i1, i2, -⟩ := invN_spec hp2 (show p < 4294967296 by omega) hqpl (by rw [hqp]; exact hgq)
      obtain ⟨iv, hiv⟩ : ∃ z, z = invN qp p := ⟨_, rfl⟩
      rw [← hiv] at i1 i2
      obtain ⟨o, ho⟩ : ∃ z, z = rest * iv % p := ⟨_, rfl⟩
      have hol : o < p := by rw [ho]; exact Nat.mod_lt _ (by omega)
      have hval : Hid (o = overD (ps.getD k 0) q (rs.getD k 0) t d) := by
        show _ = _
        rw [getD_some hp, getD_some hr]
        unfold overD
        rw [← ha, ← htp, ← hf, ← hrest, ← hqp, ← hiv, ← ho]
      have hC1 := fun W => Of_in d p hd hp2 p3 a hxa W
      have hC2 := fun W => Mul_in a tp p hap htpl hp2 p3 W
      have hC3 := fun W => Sub_in r f p hrp hfl hp2 p3 W
      have hC4 := fun W => Inverse_in qp p iv hqpl hp2 p3 i1 i2 W
      have hC5 := fun W => Mul_in rest iv p hrestl i1 hp2 p3 W
      rw [← hf] at hC2
      rw [← hrest] at hC3
      rw [← ho] at hC5
      have HCA := Lib.hid hC1
      have HCB := Lib.hid hC2
      have HCC := Lib.hid hC3
      have HCD := Lib.hid hC4
      have HCE := Lib.hid hC5
      have e1 := (hb.out.cell (p := ⟨b1, o1 + k, none⟩) hb1l).trans d1
      have e2 := (hb.out.cell (p := ⟨bp, op + k, none⟩) hb2l).trans d2
      have n1 : ((p : Int) == 0) = false := by rw [beq_eq_false_iff_ne]; omega
      have n2 : (t : Int) % (p : Int) = (tp : Int) := by rw [htp]; simp
      have n3 : (q : Int) % (p : Int) = (qp : Int) := by rw [hqp]; simp
      have n4 : (k : Int) < (m : Int) := by omega
      have n5 : (k : Int) < ((m + 1 : Nat) : Int) := by omega
      have HD1 := Lib.hid d1
      clear ha htp hf hrest hqp hiv ho hxa hr0 hr1 hC1 hC2 hC3 hC4 hC5 hp hr hkp hkr p4 hgq i2 p1 p2 d2
      go_wp2_with fail
      (with_reducible refine (HCA.out _).mono ?_)
      rintro e w1 ⟨rfl, hb1⟩
      have HB1 := Lib.hid (hb.out.trans (hb1.mono hb.out.size))
      have HG1 := Lib.hid ((hb1.block _ (lt_of_heap hg.out)).trans hg.out)
      clear hb1 e1 e2
      go_wp2_with fail
      (with_reducible refine (HCB.out _).mono ?_)
      rintro e w2 ⟨rfl, hb2⟩
      have HB2 := Lib.hid (HB1.out.trans (hb2.mono HB1.out.size))
      have HG2 := Lib.hid ((hb2.block _ (lt_of_heap HG1.out)).trans HG1.out)
      have e1 := (HB2.out.cell (p := ⟨b1, o1 + k, none⟩) hb1l).trans HD1.out
      clear hb2
      go_wp2_with fail
      clear e1
      (with_reducible refine (HCC.out _).mono ?_)
      rintro e w3 ⟨rfl, hb3⟩
      have HB3 := Lib.hid (HB2.out.trans (hb3.mono HB2.out.size))
      have HG3 := Lib.hid ((hb3.block _ (lt_of_heap HG2.out)).trans HG2.out)
      have c0 := (HB3.out.cell (p := ⟨b, 0, none⟩) hbw).trans HC0.out
      have e2 := (HB3.out.cell (p := ⟨bp, op + m, none⟩) hbpl).trans HDQ.out
      clear hb3
      go_wp2_with fail
      clear c0 e2
      (with_reducible refine (HCD.out _).mono ?_)
      rintro e w4 ⟨rfl, hb4⟩
      have HB4 := Lib.hid (HB3.out.trans (hb4.mono HB3.out.size))
      have HG4 := Lib.hid ((hb4.block _ (lt_of_heap HG3.out)).trans HG3.out)
      clear hb4
      go_wp2_with fail
      (with_reducible refine (HCE.out _).mono ?_)
      rintro e w5 ⟨rfl, hb5⟩
      have HB5 := Lib.hid (HB4.out.trans (hb5.mono HB4.out.size))
      have hg5 := (hb5.block _ (lt_of_heap HG4.out)).trans HG4.out
      obtain ⟨gc, gf⟩ := rowF_cell hg5 k hlt
      have HG5 := Lib.hid hg5
      clear hb5 hg5
      go_wp2_with fail
      go_roundw
      case rel =>
        refine ⟨k + 1, by omega, by go_num, ?_, HB5.out.setCell (by simp) _⟩
        show _ = _
        have h5 := rowF_set (k := k) (f' := fun i => if i < k + 1 then overD (ps.getD i 0) q (rs.getD i 0) t d else 0) HG5.out (fun j hj hne => by
          by_cases h : j < k
          · rw [if_pos h, if_pos (by omega)]
          · rw [if_neg h, if_neg (by omega)])
        rw [show (if k < k + 1 then overD (ps.getD k 0) q (rs.getD k 0) t d else 0) = o by rw [if_pos (by omega)]; exact hval.out.symm] at h5
        exact h5
      case measure => simp [intOf]; omega
    · obtain rfl : k = m := by omega
      have hg2 := hg.out
      rw [rowF_congr (f' := fun i => overD (ps.getD i 0) q (rs.getD i 0) t d) (fun j hj => if_pos hj)] at hg2
      have HO := Lib.hid (rowF_owns (base := w.heap.size) hg2 (by omega) (by omega))
      clear hg2 hg
      go_wp2
      rw [HP.out]
      refine ⟨_, rfl, ?_, hb.out⟩
      have e1 : ps.length - 1 = k := by rw [HN.out]; omega
      have e2 : ps.getD k 0 = q := getD_some HQ.out
      unfold overL
      rw [List.length_map, List.length_range, e1, e2]
      exact HO.out
end Go.Proofs.Ytnjblppapmflhaa
